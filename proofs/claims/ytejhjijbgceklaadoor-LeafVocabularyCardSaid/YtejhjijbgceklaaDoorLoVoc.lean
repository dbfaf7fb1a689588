/-
 The law LeafVocabulary: its walk.
-/
import Derived.Test.YtejhjijbgceklaaDoorGrpU
import Derived.Test.YtejhjijbgceklaaDoorGrpM
namespace Go.AB
open Go Go.RowKit
open Go.AB.Enc (cells)
open Go.PB (Chap TextD PlaceD ReadingD CopyD WayD)
theorem allP_mem3 {t : TextD} {x : PW} : x ∈ allP t ↔ ∃ (k n w : Nat) (c : Chap) (l : List ByteArray), t[k]? = some c ∧ c.lines[n]? = some l ∧ l[w]? = some x.2 ∧ x.1 = ⟨k, n, w⟩ := by
 constructor
 ·intro hx
  obtain ⟨l, hl, h1⟩ := List.mem_flatten.1 hx
  obtain ⟨k, hk, rfl⟩ := List.mem_mapIdx.1 hl
  obtain ⟨l2, hl2, h2⟩ := List.mem_flatten.1 h1
  obtain ⟨n, hn, rfl⟩ := List.mem_mapIdx.1 hl2
  obtain ⟨w, hw, rfl⟩ := List.mem_mapIdx.1 h2
  exact ⟨k, n, w, t[k], t[k].lines[n], List.getElem?_eq_getElem hk, List.getElem?_eq_getElem hn, List.getElem?_eq_getElem hw, rfl⟩
 rintro ⟨k, n, w, c, l, hk, hn, hw, hx⟩
 obtain ⟨k1, k2⟩ := List.getElem?_eq_some_iff.1 hk
 obtain ⟨n1, n2⟩ := List.getElem?_eq_some_iff.1 hn
 obtain ⟨w1, w2⟩ := List.getElem?_eq_some_iff.1 hw
 refine List.mem_flatten.2 ⟨_, List.mem_mapIdx.2 ⟨k, k1, rfl⟩, List.mem_flatten.2 ⟨_, List.mem_mapIdx.2 ⟨n, by rw [k2]; exact n1, rfl⟩, ?_⟩⟩
 subst k2
 subst n2
 exact List.mem_mapIdx.2 ⟨w, w1, Prod.ext hx.symm w2⟩
theorem wordsT_mem {t : TextD} {s : ByteArray} : s ∈ wordsT t ↔ ∃ (k n : Nat) (c : Chap) (l : List ByteArray), t[k]? = some c ∧ c.lines[n]? = some l ∧ s ∈ l := by
 unfold wordsT
 rw [List.mem_map]
 constructor
 ·rintro ⟨x, hx, rfl⟩
  obtain ⟨k, n, w, c, l, h1, h2, h3, _⟩ := allP_mem3.1 hx
  exact ⟨k, n, c, l, h1, h2, List.mem_of_getElem? h3⟩
 rintro ⟨k, n, c, l, h1, h2, h3⟩
 obtain ⟨w, hw⟩ := List.getElem?_of_mem h3
 exact ⟨(⟨k, n, w⟩, s), allP_mem3.2 ⟨k, n, w, c, l, h1, h2, hw, rfl⟩, rfl⟩
theorem readW_known {t : TextD} {rs : List ReadingD} (hv : rsB t rs = true) {s : ByteArray} (h : s ∈ wordsT (readT t rs)) : s ∈ wordsT t ∨ ∃ r ∈ rs, r.word = s := by
 obtain ⟨k, n, d, l, h1, h2, h3⟩ := wordsT_mem.1 h
 rw [readT_get] at h1
 obtain ⟨c, hc, rfl⟩ := Option.map_eq_some_iff.1 h1
 simp only [readC, List.getElem?_mapIdx] at h2
 obtain ⟨l0, hl, rfl⟩ := Option.map_eq_some_iff.1 h2
 rcases readL_mem hv h3 with h4 | ⟨r, hr, e, _⟩
 ·exact .inl (wordsT_mem.2 ⟨k, n, c, l0, hc, hl, h4⟩)
 exact .inr ⟨r, hr, e.symm⟩
/-- a word that stands in its place as it did is one of the copy's -/
theorem stands_in {t : TextD} (ht : textB t = true) {rs : List ReadingD} (hv : rsB t rs = true) {x : PW} (hx : x ∈ allP t) (h : standR rs x.1 x.2 = x.2) : x.2 ∈ wordsT (readT t rs) := by
 obtain ⟨k, n, w, c, l, hk, hn, hw, hp⟩ := allP_mem3.1 hx
 have hwB := allP_wordB ht hx
 have hne := wordB_ne hwB
 have hput : ∀ r ∈ readsAt rs ⟨(k : Int), (n : Int), (w : Int)⟩, r.kind = 2 := fun r hr => by
  obtain ⟨h1, h2⟩ := List.mem_filter.1 hr
  refine Classical.byContradiction fun hk2 => ?_
  unfold standR at h
  cases hf : rs.find? (fun r => decide (r.pl = x.1) && !decide (r.kind = 2)) with
  | none =>
   have := List.find?_eq_none.1 hf r h1
   simp only [Bool.and_eq_true, decide_eq_true_eq, Bool.not_eq_true', decide_eq_false_iff_not, not_and, Decidable.not_not] at this
   exact hk2 (this ((of_decide_eq_true h2).trans hp.symm))
  | some r0 =>
   rw [hf] at h
   have hm := List.mem_of_find?_eq_some hf
   have hq := List.find?_some hf
   simp only [Bool.and_eq_true, decide_eq_true_eq, Bool.not_eq_true', decide_eq_false_iff_not] at hq
   have hpl : r0.pl = ⟨(k : Int), (n : Int), (w : Int)⟩ := hq.1.trans hp
   obtain ⟨l', hw', hkk⟩ := readingB_kind ((rsB_true.1 hv).1 r0 hm)
   rw [hpl] at hw' hkk
   rw [wordsOf_get hk hn] at hw'
   cases hw'
   dsimp only at h hkk
   rcases hkk with ⟨_, _, _, e⟩ | ⟨e, _⟩ | ⟨_, _, _, _, e⟩
   ·exact hne (h ▸ e)
   ·exact hq.2 e
   refine e ?_
   rw [h, Int.toNat_natCast]
   unfold ownW
   rw [hw]; rfl
 refine wordsT_mem.2 ⟨k, n, readC rs k c, readL rs (k : Int) (n : Int) l, readT_at hk, readC_lines hn, ?_⟩
 have hlt := (List.getElem?_eq_some_iff.1 hw).1
 unfold readL lineR
 refine List.mem_flatMap.2 ⟨w, List.mem_range.2 (by omega), ?_⟩
 rw [cellR_prog hv, progR_puts hput]
 refine List.mem_filter.2 ⟨?_, by simpa using hne⟩
 rw [show ownW l w = x.2 by unfold ownW; rw [hw]; rfl]
 simp
theorem knownR_step {rs : List ReadingD} {k : Nat} {r : ReadingD} {w : ByteArray} {b0 : Bool} (h : rs[k]? = some r) : (b0 || (rs.take (k + 1)).any fun r => decide (r.word = w)) = ((b0 || (rs.take k).any fun r => decide (r.word = w)) || decide (r.word = w)) := by
 rw [any_take h, Bool.or_assoc]
end Go.AB
namespace Go.Proofs.YtejhjijbgceklaaDoor
set_option maxRecDepth 10000
open Go.RowKit Go.AB
open Go.AB.Enc (cells)
open Go.PB (Chap TextD PlaceD ReadingD CopyD WayD)
theorem lawHas_pure (l : List ByteArray) (s : ByteArray) (hl : l.length ≤ 1000) : Pure Tryd.prog 34 [lst l, .v (.string s)] (.v (.bool (decide (s ∈ l)))) := by
 refine pure_of_body Tryd.func34 rfl (fun m => .v) fun G nx => ?_
 simp only [Tryd.ntmps34, List.length_cons, List.length_nil, Nat.reduceAdd, Nat.reduceSub]
 refine aw_lt fun hlt => ?_
 dsimp only at hlt
 refine yS fun _ K1 => ?_
 refine yR ?_
 refine yA rfl rfl ?_
 refine yN ?_
 dsimp only [St.put]
 refine K1 _ ?_
 refine yS fun _ K2 => ?_
 refine yS fun _ K3 => ?_
 refine yR ?_
 refine yM rfl rfl ?_
 refine aops_n rfl (n_len' rfl rfl (List.length_map _)) ?_
 refine yM rfl rfl ?_
 refine yN ?_
 dsimp only [St.put]
 refine K3 _ ?_
 refine aw_block ?_
 refine aw_wipe 10 ?_
 simp only [firsts, getA, Nat.reduceAdd, List.getD_cons_zero, List.getD_cons_succ, List.getD_nil, natBeq, Nat.reduceBEq, cond_true, cond_false]
 refine aw_forget (G) zX ?_
 dsimp only
 refine aw_loopD (X := Nat) (fun k => k ≤ l.length ∧ ∀ y ∈ l.take k, y ≠ s) (fun k => l.length - k) (fun k => [(6, .any), (9, .v (.int .i64 (k : Int)))]) (fun k G' => G') 0 rfl ?_ ?_ (fun _ _ h => h) ?_ ?_ ?_
 ·exact ⟨Nat.zero_le _, by simp⟩
 ·exact zF
 ·rintro k hI
  exact zL
 ·exact fun _ _ _ _ h => .inl h
 rintro k hI
 dsimp only at hI ⊢
 refine yS fun _ K4 => ?_
 refine yR ?_
 refine aops_n rfl (n_lss rfl rfl rfl) ?_
 refine yN ?_
 dsimp only [St.put]
 refine K4 _ ?_
 refine yS fun _ K5 => ?_
 refine aw_cond rfl (fun hc => ?_) (fun hc => ?_)
 ·replace hc := of_decide_eq_true hc
  obtain ⟨y, hy⟩ : ∃ y, l[k]? = some y := some_of_lt (by omega)
  refine aw_skip ?_
  refine K5 _ ?_
  refine yS fun _ K6 => ?_
  refine aw_block ?_
  refine yS fun _ K7 => ?_
  refine yR ?_
  refine aops_n rfl (n_indexAddr rfl rfl rfl rfl (map_get (by assumption)) (Enc.len _)) ?_
  refine yL rfl rfl rfl ?_
  refine yA rfl rfl ?_
  refine yN ?_
  dsimp only [St.put]
  refine K7 _ ?_
  refine yS fun _ K8 => ?_
  refine yR ?_
  refine yM rfl rfl ?_
  refine yM rfl rfl ?_
  refine aops_n rfl (n_streq rfl rfl rfl) ?_
  refine yN ?_
  dsimp only [St.put]
  refine K8 _ ?_
  refine aw_cond rfl (fun hc => ?_) (fun hc => ?_)
  ·have he : y = s := of_decide_eq_true hc
   refine yS fun _ K9 => ?_
   refine yR ?_
   refine yA rfl rfl ?_
   refine yN ?_
   dsimp only [St.put]
   refine K9 _ ?_
   refine aw_ret ?_
   refine ends_1 rfl (by constructor) zN zS ?_
   exact vb (decide_eq_true (he ▸ mem_of_get hy)).symm
  have hne : y ≠ s := of_decide_eq_false hc
  refine aw_skip ?_
  refine K6 _ ?_
  refine yR ?_
  refine aops_n rfl (n_add rfl rfl rfl (by omega)) ?_
  refine yM rfl rfl ?_
  refine yN ?_
  dsimp only [St.put]
  exact ⟨k + 1, by omega, ⟨by omega, memt_step (p := fun y => y ≠ s) hy hne hI.2⟩, ⟨⟨rfl, rfl⟩, zF, zB, zN, zX⟩⟩
 replace hc := of_decide_eq_false hc
 refine aw_exit ?_
 refine K2 _ ?_
 refine yS fun _ K10 => ?_
 refine yR ?_
 refine yA rfl rfl ?_
 refine yN ?_
 dsimp only [St.put]
 refine K10 _ ?_
 refine aw_ret ?_
 refine ends_1 rfl (by constructor) zN zS ?_
 exact vb (by
  have := hI.2
  rw [take_all (show l.length ≤ k by omega)] at this
  exact (decide_eq_false fun h => this s h rfl).symm)
set_option maxHeartbeats 8000000 in
theorem vocabulary_pureN (t : TextD) (c : CopyD) : PureN 0 kndF Tryd.prog 6 [textC t, val c] (.v (.bool true)) := fun G nx hF hnx => by
 refine pc_named_of_body (G) (nx) Tryd.func6 rfl (.v) zN (fun hlt => zH) ?_
 simp only [Tryd.ntmps6, List.length_cons, List.length_nil, Nat.reduceAdd, Nat.reduceSub]
 refine aw_lt fun hlt => ?_
 dsimp only at hlt
 refine yS fun _ K1 => ?_
 refine yR ?_
 try dsimp only [St.put]
 refine yB rfl rfl rfl ?_
 try dsimp only [St.put]
 refine yB rfl rfl rfl ?_
 refine yA rfl rfl ?_
 refine yN ?_
 dsimp only [St.put]
 refine K1 _ ?_
 refine yS fun _ K2 => ?_
 refine yR ?_
 try dsimp only [St.put]
 refine aops_e rfl (e_call_n rfl rfl rfl (alive_pureN 0) zG (by dsimp only [St.put]; omega) ?_)
 refine yA rfl rfl ?_
 refine yN ?_
 dsimp only [St.put]
 refine K2 _ ?_
 refine yS fun _ K3 => ?_
 refine yS fun _ K4 => ?_
 refine yR ?_
 try dsimp only [St.put]
 refine aops_s rfl (s_load_agg' rfl rfl rfl) ?_
 try dsimp only [St.put]
 refine aops_e rfl (e_call_pure rfl rfl rfl (lawReady_pure t) ?_)
 refine aops_n rfl (n_not rfl rfl) ?_
 refine yM rfl rfl ?_
 refine aops_split (fun hs => ?_) (fun hs => ?_)
 ·skip
  refine yK rfl ?_
  refine yK rfl ?_
  refine yK rfl ?_
  refine yK rfl ?_
  refine aops_n rfl (n_pt rfl rfl (by constructor)) ?_
  refine yM rfl rfl ?_
  refine yK rfl ?_
  refine yK rfl ?_
  refine aops_n rfl (n_pt rfl rfl (by constructor)) ?_
  refine yN ?_
  dsimp only [St.put]
  refine K4 _ ?_
  refine aw_cond rfl (fun _ => ?_) (fun h => by cases h)
  refine yS fun _ K5 => ?_
  refine yR ?_
  refine yM rfl rfl ?_
  refine yA rfl rfl ?_
  refine yN ?_
  dsimp only [St.put]
  refine K5 _ ?_
  refine aw_ret ?_
  refine ends_1 rfl (by constructor) zN zS ?_
  rfl
 have ht : textB t = true := by
  have : readyT t = true := by simpa using hs
  exact (readyT_true.1 this).2
 try dsimp only [St.put]
 refine aops_s rfl (s_load_agg' rfl rfl rfl) ?_
 refine yE rfl rfl rfl ?_
 try dsimp only [St.put]
 refine aops_e rfl (e_call_pure rfl rfl rfl (lawRight_pure t c ht) ?_)
 refine aops_n rfl (n_not rfl rfl) ?_
 refine aops_n rfl (n_pf rfl rfl (by constructor)) ?_
 refine yM rfl rfl ?_
 refine aops_split (fun hs => ?_) (fun hs => ?_)
 ·skip
  refine yK rfl ?_
  refine yK rfl ?_
  refine aops_n rfl (n_pt rfl rfl (by constructor)) ?_
  refine yN ?_
  dsimp only [St.put]
  refine K4 _ ?_
  refine aw_cond rfl (fun _ => ?_) (fun h => by cases h)
  refine yS fun _ K6 => ?_
  refine yR ?_
  refine yM rfl rfl ?_
  refine yA rfl rfl ?_
  refine yN ?_
  dsimp only [St.put]
  refine K6 _ ?_
  refine aw_ret ?_
  refine ends_1 rfl (by constructor) zN zS ?_
  rfl
 have hc2 : copyB t c = true := by
  have : rightC t c = true := by simpa using hs
  exact (rightC_true.1 this).2
 obtain ⟨hid, hl20, hv, hln⟩ := copyB_true.1 hc2
 have hxT := readT_text ht hv hln
 have hR0 := lRead 0 t c ht hc2
 have hD0 := lDoubt 0 t [c] ht (by simp) (by simp [hc2])
 have hdl := doubtL_len (allP t) [c]
 have hN := allP_len ht
 have hNx := allP_len hxT
 have hA1 := vocL_len (wordsT t)
 have hB1 := vocL_len (wordsT (readT t c.rs))
 rw [show (wordsT t).length = (allP t).length by simp [wordsT]] at hA1
 rw [show (wordsT (readT t c.rs)).length = (allP (readT t c.rs)).length by simp [wordsT]] at hB1
 have hBk : ∀ w, w ∈ vocL (wordsT (readT t c.rs)) → (decide (w ∈ vocL (wordsT t)) || c.rs.any fun r => decide (r.word = w)) = true := fun w hw => by
  rcases readW_known hv (vocL_mem.1 hw) with h | ⟨r, hr, e⟩
  ·rw [decide_eq_true (vocL_mem.2 h)]; rfl
  rw [List.any_eq_true.2 ⟨r, hr, decide_eq_true e⟩, Bool.or_true]
 have hAd : ∀ w, w ∉ vocL (wordsT (readT t c.rs)) → ∀ q, q ∈ placesL (allP t) w → q ∈ doubtL (allP t) [c] := fun w hw q hq => by
  have hm := placesL_mem.1 hq
  refine (doubtL_mem (x := (q, w)) hm).2 ?_
  unfold doubtB
  simp only [List.any_cons, List.any_nil, Bool.or_false, Bool.not_eq_true', decide_eq_false_iff_not]
  exact fun e => hw (vocL_mem.2 (stands_in ht hv hm e))
 have hAB : ∀ (k : Nat) (w : ByteArray), (vocL (wordsT t))[k]? = some w → wordB w = true := fun k w h => by
  obtain ⟨y, hy, rfl⟩ := List.mem_map.1 (vocL_mem.1 (List.mem_of_getElem? h))
  exact allP_wordB ht hy
 obtain ⟨A, hA⟩ : ∃ A, vocL (wordsT t) = A := ⟨_, rfl⟩
 obtain ⟨B, hB⟩ : ∃ B, vocL (wordsT (readT t c.rs)) = B := ⟨_, rfl⟩
 obtain ⟨D, hD⟩ : ∃ D, doubtL (allP t) [c] = D := ⟨_, rfl⟩
 have hvA := lVocabulary t ht
 have hvB := lVocabulary (readT t c.rs) hxT
 rw [hA] at hA1 hBk hAB hvA
 rw [hB] at hB1 hBk hAd hvB
 rw [hD] at hD0 hAd hdl
 obtain ⟨x, hx⟩ : ∃ x, readT t c.rs = x := ⟨_, rfl⟩
 rw [hx] at hR0 hvB
 have hHasA := fun s => lawHas_pure A s (by omega)
 have hHasB := fun s => lawHas_pure B s (by omega)
 refine yM rfl rfl ?_
 refine aops_n rfl (n_not rfl rfl) ?_
 refine aops_n rfl (n_pf rfl rfl (by constructor)) ?_
 refine yN ?_
 dsimp only [St.put]
 refine K4 _ ?_
 refine aw_cond rfl (fun h => by cases h) (fun _ => ?_)
 refine aw_skip ?_
 refine K3 _ ?_
 refine yS fun _ K7 => ?_
 refine yR ?_
 try dsimp only [St.put]
 refine aops_s rfl (s_load_agg' rfl rfl rfl) ?_
 refine yE rfl rfl rfl ?_
 try dsimp only [St.put]
 refine aops_e rfl (e_call_n rfl rfl rfl hR0 zG (by dsimp only [St.put]; omega) ?_)
 refine yM rfl rfl ?_
 refine yX rfl rfl rfl rfl ?_
 refine yX rfl rfl rfl rfl ?_
 try dsimp only [St.put]
 refine aops_e rfl (e_allocC rfl ?_)
 try dsimp only [St.put]
 refine aops_e rfl (e_store_all rfl rfl rfl zG rfl rfl (by rfl) ?_)
 refine yA rfl rfl ?_
 refine yN ?_
 dsimp only [St.put]
 refine K7 _ ?_
 refine aw_commitD (i := 6) rfl zG (by first | exact List.cons_ne_nil _ _ | (simp; done) | (simp [putAt]; done)) ?_
 dsimp only
 refine yS fun _ K8 => ?_
 refine yR ?_
 try dsimp only [St.put]
 refine aops_s rfl (s_load_agg' rfl rfl rfl) ?_
 try dsimp only [St.put]
 refine aops_e rfl (e_call_pure rfl rfl rfl (hvA) ?_)
 refine yM rfl rfl ?_
 refine yX rfl rfl rfl rfl ?_
 refine yX rfl rfl rfl rfl ?_
 refine yA rfl rfl ?_
 refine yA rfl rfl ?_
 refine yN ?_
 dsimp only [St.put]
 refine K8 _ ?_
 refine yS fun _ K9 => ?_
 refine yR ?_
 try dsimp only [St.put]
 refine aops_s rfl (s_load_agg' rfl rfl rfl) ?_
 try dsimp only [St.put]
 refine aops_e rfl (e_call_pure rfl rfl rfl (hvB) ?_)
 refine yM rfl rfl ?_
 refine yX rfl rfl rfl rfl ?_
 refine yX rfl rfl rfl rfl ?_
 refine yA rfl rfl ?_
 refine yA rfl rfl ?_
 refine yN ?_
 dsimp only [St.put]
 refine K9 _ ?_
 refine yS fun _ K10 => ?_
 refine yR ?_
 try dsimp only [St.put]
 refine aops_s rfl (s_load_agg' rfl rfl rfl) ?_
 refine yE rfl rfl rfl ?_
 try dsimp only [St.put]
 refine aops_e rfl (e_buildSlice rfl rfl rfl (by decide) (by decide) zR (by decide) ?_)
 try dsimp only [St.put]
 refine aops_e rfl (e_call_n rfl rfl rfl hD0 zG (by dsimp only [St.put]; omega) ?_)
 refine yM rfl rfl ?_
 refine yX rfl rfl rfl rfl ?_
 refine yX rfl rfl rfl rfl ?_
 refine yA rfl rfl ?_
 refine yA rfl rfl ?_
 refine yN ?_
 dsimp only [St.put]
 refine K10 _ ?_
 refine yS fun _ K11 => ?_
 refine yS fun _ K12 => ?_
 refine yR ?_
 refine yM rfl rfl ?_
 refine aops_n rfl (n_bool (c := false) (n_neq rfl rfl rfl) (not_dec_f rfl)) ?_
 refine yM rfl rfl ?_
 refine yM rfl rfl ?_
 refine aops_n rfl (n_bool (c := false) (n_neq rfl rfl rfl) (not_dec_f rfl)) ?_
 refine aops_n rfl (n_pf rfl rfl (by constructor)) ?_
 refine yM rfl rfl ?_
 refine yM rfl rfl ?_
 refine aops_n rfl (n_bool (c := false) (n_neq rfl rfl rfl) (not_dec_f rfl)) ?_
 refine aops_n rfl (n_pf rfl rfl (by constructor)) ?_
 refine yM rfl rfl ?_
 refine yM rfl rfl ?_
 refine aops_n rfl (n_bool (c := false) (n_neq rfl rfl rfl) (not_dec_f rfl)) ?_
 refine aops_n rfl (n_pf rfl rfl (by constructor)) ?_
 refine yN ?_
 dsimp only [St.put]
 refine K12 _ ?_
 refine aw_cond rfl (fun h => by cases h) (fun _ => ?_)
 refine aw_skip ?_
 refine K11 _ ?_
 refine yS fun _ K13 => ?_
 refine yR ?_
 refine yA rfl rfl ?_
 refine yN ?_
 dsimp only [St.put]
 refine K13 _ ?_
 refine yS fun _ K14 => ?_
 refine aw_wipe 84 ?_
 simp only [firsts, getA, Nat.reduceAdd, List.getD_cons_zero, List.getD_cons_succ, List.getD_nil, natBeq, Nat.reduceBEq, cond_true, cond_false]
 refine aw_cutD (X := Unit) (fun _ => True) (fun _ => [(2, .elem [lst t]), (3, .elem (cells c)), (5, .v (.bool true)), (8, lst A), (10, lst B), (12, lst D), (14, .fn (.func 34) []), (81, lst B), (82, .v (.int .i64 (B.length : Int))), (83, .v (.int .i64 0))]) (fun _ G' => G') rfl ?_ (fun _ _ _ _ h => .inl h) ?_ ?_
 ·rintro _ hI
  exact (by (try dsimp only); repeat' (first | exact trivial | refine ⟨?_, ?_⟩ | exact .v | exact .any | refine .elem ?_ | exact lst_low _ _ | exact cells_low _ _ | exact val_low _ _ | exact data_low _ (by (try dsimp only); omega) | exact .box (by (try dsimp only); omega) | exact nil_low | exact low_nil | exact .fn low_nil | refine set_low ?_ ?_ | exact .arr (by (try dsimp only); omega) | exact .own (by (try dsimp only); omega) | exact .map (by (try dsimp only); omega) | exact flatC_low _ | refine low_cons ?_ ?_ | exact lst_low _ _))
 ·refine yR ?_
  refine yM rfl rfl ?_
  refine aops_n rfl (n_len' rfl rfl (List.length_map _)) ?_
  refine yM rfl rfl ?_
  refine yN ?_
  dsimp only [St.put]
  exact ⟨(), trivial, ⟨⟨rfl, rfl⟩, zF, zB, zN, zX⟩⟩
 rintro _ hI
 dsimp only at hI ⊢
 refine aw_block ?_
 refine aw_wipe 84 ?_
 simp only [firsts, getA, Nat.reduceAdd, List.getD_cons_zero, List.getD_cons_succ, List.getD_nil, natBeq, Nat.reduceBEq, cond_true, cond_false]
 refine aw_forget (G) zX ?_
 dsimp only
 refine aw_loopD (X := Nat) (fun k => k ≤ B.length) (fun k => B.length - k) (fun k => [(16, .any), (17, .any), (19, .any), (83, .v (.int .i64 (k : Int)))]) (fun k G' => G') 0 rfl ?_ ?_ (fun _ _ h => h) ?_ ?_ ?_
 ·exact Nat.zero_le _
 ·exact zF
 ·rintro k hI
  exact zL
 ·exact fun _ _ _ _ h => .inl h
 rintro k hI
 dsimp only at hI ⊢
 refine yS fun _ K16 => ?_
 refine yR ?_
 refine aops_n rfl (n_lss rfl rfl rfl) ?_
 refine yN ?_
 dsimp only [St.put]
 refine K16 _ ?_
 refine yS fun _ K17 => ?_
 refine aw_cond rfl (fun hc => ?_) (fun hc => ?_)
 ·replace hc := of_decide_eq_true hc
  obtain ⟨w, hw⟩ : ∃ w, B[k]? = some w := some_of_lt (by omega)
  refine aw_skip ?_
  refine K17 _ ?_
  refine yS fun _ K18 => ?_
  refine aw_block ?_
  refine yS fun _ K19 => ?_
  refine yR ?_
  refine aops_n rfl (n_indexAddr rfl rfl rfl rfl (map_get (by assumption)) (Enc.len _)) ?_
  refine yL rfl rfl rfl ?_
  refine yA rfl rfl ?_
  refine yN ?_
  dsimp only [St.put]
  refine K19 _ ?_
  refine yS fun _ K20 => ?_
  refine yR ?_
  refine yM rfl rfl ?_
  refine yM rfl rfl ?_
  refine yM rfl rfl ?_
  try dsimp only [St.put]
  refine aops_e rfl (e_call_pure rfl rfl rfl (hHasA w) ?_)
  refine yA rfl rfl ?_
  refine yN ?_
  dsimp only [St.put]
  refine K20 _ ?_
  refine yS fun _ K21 => ?_
  refine yS fun _ K22 => ?_
  refine yR ?_
  refine yF rfl rfl rfl rfl ?_
  refine yL rfl rfl rfl ?_
  refine aops_n rfl (n_len' rfl rfl (List.length_map _)) ?_
  refine yM rfl rfl ?_
  refine yN ?_
  dsimp only [St.put]
  refine K22 _ ?_
  refine aw_block ?_
  refine aw_wipe 95 ?_
  simp only [firsts, getA, Nat.reduceAdd, List.getD_cons_zero, List.getD_cons_succ, List.getD_nil, natBeq, Nat.reduceBEq, cond_true, cond_false]
  refine aw_forget (G) zX ?_
  dsimp only
  refine aw_loopD (X := Nat × Bool) (fun y => y.1 ≤ c.rs.length ∧ (decide (w ∈ A) || (c.rs.take y.1).any fun r => decide (r.word = w)) = y.2) (fun y => c.rs.length - y.1) (fun y => [(17, .v (.bool y.2)), (19, .any), (94, .v (.int .i64 (y.1 : Int)))]) (fun y G' => G') (0, decide (w ∈ A)) rfl ?_ ?_ (fun _ _ h => h) ?_ ?_ ?_
  ·exact ⟨Nat.zero_le _, by simp⟩
  ·exact zF
  ·rintro ⟨i, bb⟩ hI
   exact zL
  ·exact fun _ _ _ _ h => .inl h
  rintro ⟨i, bb⟩ hJ
  dsimp only at hJ ⊢
  refine yS fun _ K23 => ?_
  refine yR ?_
  refine aops_n rfl (n_lss rfl rfl rfl) ?_
  refine yN ?_
  dsimp only [St.put]
  refine K23 _ ?_
  refine yS fun _ K24 => ?_
  refine aw_cond rfl (fun hc => ?_) (fun hc => ?_)
  ·replace hc := of_decide_eq_true hc
   obtain ⟨r, hr⟩ : ∃ r, c.rs[i]? = some r := some_of_lt (by omega)
   refine aw_skip ?_
   refine K24 _ ?_
   refine yS fun _ K25 => ?_
   refine aw_block ?_
   refine yS fun _ K26 => ?_
   refine yR ?_
   refine aops_n rfl (n_indexAddr rfl rfl rfl rfl (map_get (by assumption)) (Enc.len _)) ?_
   refine yE rfl rfl rfl ?_
   try dsimp only [St.put]
   refine aops_e rfl (e_allocC rfl ?_)
   try dsimp only [St.put]
   refine aops_e rfl (e_store_all rfl rfl rfl zG rfl rfl (by rfl) ?_)
   refine yN ?_
   dsimp only [St.put]
   refine K26 _ ?_
   refine aw_commitD (i := 19) rfl zG (by first | exact List.cons_ne_nil _ _ | (simp; done) | (simp [putAt]; done)) ?_
   dsimp only
   refine yR ?_
   refine yM rfl rfl ?_
   refine yM rfl rfl ?_
   refine aops_split (fun hs => ?_) (fun hs => ?_)
   ·have s2 := hs
    refine yK rfl ?_
    refine yK rfl ?_
    refine yK rfl ?_
    refine yK rfl ?_
    refine aops_n rfl (n_pt rfl rfl (by constructor)) ?_
    refine yA rfl rfl ?_
    refine yN ?_
    dsimp only [St.put]
    refine K25 _ ?_
    refine yR ?_
    refine aops_n rfl (n_add rfl rfl rfl (by omega)) ?_
    refine yM rfl rfl ?_
    refine yN ?_
    dsimp only [St.put]
    have hst := knownR_step (w := w) (b0 := decide (w ∈ A)) hr
    rw [hJ.2] at hst
    first
    | (have e1 : bb = true := s2
       rw [e1, Bool.true_or] at hst
       exact ⟨(i + 1, true), by (dsimp only; omega), ⟨by (dsimp only; omega), hst⟩, ⟨⟨rfl, rfl⟩, zF, zB, zN, zX⟩⟩)
    | (have e1 : bb = false := s2
       rw [e1, Bool.false_or] at hst
       exact ⟨(i + 1, decide (r.word = w)), by (dsimp only; omega), ⟨by (dsimp only; omega), hst⟩, ⟨⟨rfl, rfl⟩, zF, zB, zN, zX⟩⟩)
   have s2 := hs
   refine yF rfl rfl rfl rfl ?_
   refine yL rfl rfl rfl ?_
   refine yM rfl rfl ?_
   refine aops_n rfl (n_streq rfl rfl rfl) ?_
   refine aops_n rfl (n_pf rfl rfl (by constructor)) ?_
   refine yA rfl rfl ?_
   refine yN ?_
   dsimp only [St.put]
   refine K25 _ ?_
   refine yR ?_
   refine aops_n rfl (n_add rfl rfl rfl (by omega)) ?_
   refine yM rfl rfl ?_
   refine yN ?_
   dsimp only [St.put]
   have hst := knownR_step (w := w) (b0 := decide (w ∈ A)) hr
   rw [hJ.2] at hst
   first
   | (have e1 : bb = true := s2
      rw [e1, Bool.true_or] at hst
      exact ⟨(i + 1, true), by (dsimp only; omega), ⟨by (dsimp only; omega), hst⟩, ⟨⟨rfl, rfl⟩, zF, zB, zN, zX⟩⟩)
   | (have e1 : bb = false := s2
      rw [e1, Bool.false_or] at hst
      exact ⟨(i + 1, decide (r.word = w)), by (dsimp only; omega), ⟨by (dsimp only; omega), hst⟩, ⟨⟨rfl, rfl⟩, zF, zB, zN, zX⟩⟩)
  replace hc := of_decide_eq_false hc
  have hkn := hJ.2
  rw [take_all (show c.rs.length ≤ i by omega), hBk w (mem_of_get hw)] at hkn
  subst hkn
  refine aw_exit ?_
  refine K21 _ ?_
  refine yS fun _ K27 => ?_
  refine yR ?_
  refine yM rfl rfl ?_
  refine aops_n rfl (n_not rfl rfl) ?_
  refine yN ?_
  dsimp only [St.put]
  refine K27 _ ?_
  refine aw_cond rfl (fun h => by cases h) (fun _ => ?_)
  refine aw_skip ?_
  refine K18 _ ?_
  refine yR ?_
  refine aops_n rfl (n_add rfl rfl rfl (by omega)) ?_
  refine yM rfl rfl ?_
  refine yN ?_
  dsimp only [St.put]
  exact ⟨k + 1, by omega, by omega, ⟨⟨rfl, rfl⟩, zF, zB, zN, zX⟩⟩
 replace hc := of_decide_eq_false hc
 refine aw_exit ?_
 refine K14 _ ?_
 refine yS fun _ K28 => ?_
 refine aw_wipe 112 ?_
 simp only [firsts, getA, Nat.reduceAdd, List.getD_cons_zero, List.getD_cons_succ, List.getD_nil, natBeq, Nat.reduceBEq, cond_true, cond_false]
 refine aw_cutD (X := Unit) (fun _ => True) (fun _ => [(109, lst A), (110, .v (.int .i64 (A.length : Int))), (111, .v (.int .i64 0))]) (fun _ G' => G') rfl ?_ (fun _ _ _ _ h => .inl h) ?_ ?_
 ·rintro _ hI
  exact zL
 ·refine yR ?_
  refine yM rfl rfl ?_
  refine aops_n rfl (n_len' rfl rfl (List.length_map _)) ?_
  refine yM rfl rfl ?_
  refine yN ?_
  dsimp only [St.put]
  exact ⟨(), trivial, ⟨⟨rfl, rfl⟩, zF, zB, zN, zX⟩⟩
 rintro _ hI
 dsimp only at hI ⊢
 refine aw_block ?_
 refine aw_wipe 112 ?_
 simp only [firsts, getA, Nat.reduceAdd, List.getD_cons_zero, List.getD_cons_succ, List.getD_nil, natBeq, Nat.reduceBEq, cond_true, cond_false]
 refine aw_forget (G) zX ?_
 dsimp only
 refine aw_loopD (X := Nat) (fun k2 => k2 ≤ A.length) (fun k2 => A.length - k2) (fun k2 => [(21, .any), (22, .any), (23, .any), (25, .any), (26, .any), (28, .any), (111, .v (.int .i64 (k2 : Int)))]) (fun k2 G' => G') 0 rfl ?_ ?_ (fun _ _ h => h) ?_ ?_ ?_
 ·exact Nat.zero_le _
 ·exact zF
 ·rintro k2 hI
  exact zL
 ·exact fun _ _ _ _ h => .inl h
 rintro k2 hI4
 dsimp only at hI4 ⊢
 refine yS fun _ K30 => ?_
 refine yR ?_
 refine aops_n rfl (n_lss rfl rfl rfl) ?_
 refine yN ?_
 dsimp only [St.put]
 refine K30 _ ?_
 refine yS fun _ K31 => ?_
 refine aw_cond rfl (fun hc => ?_) (fun hc => ?_)
 ·replace hc := of_decide_eq_true hc
  obtain ⟨w, hw⟩ : ∃ w, A[k2]? = some w := some_of_lt (by omega)
  have hPl := lPlaces t ht (hAB k2 w hw)
  have hpl := placesL_len (allP t) w
  refine aw_skip ?_
  refine K31 _ ?_
  refine yS fun _ K32 => ?_
  refine aw_block ?_
  refine yS fun _ K33 => ?_
  refine yR ?_
  refine aops_n rfl (n_indexAddr rfl rfl rfl rfl (map_get (by assumption)) (Enc.len _)) ?_
  refine yL rfl rfl rfl ?_
  refine yA rfl rfl ?_
  refine yN ?_
  dsimp only [St.put]
  refine K33 _ ?_
  refine yS fun _ K34 => ?_
  refine yS fun _ K35 => ?_
  refine yR ?_
  refine yM rfl rfl ?_
  refine yM rfl rfl ?_
  refine yM rfl rfl ?_
  try dsimp only [St.put]
  refine aops_e rfl (e_call_pure rfl rfl rfl (hHasB w) ?_)
  refine yN ?_
  dsimp only [St.put]
  refine K35 _ ?_
  refine aw_cond rfl (fun hc => ?_) (fun hc => ?_)
  ·skip
   refine aw_exit ?_
   refine K32 _ ?_
   refine yR ?_
   refine aops_n rfl (n_add rfl rfl rfl (by omega)) ?_
   refine yM rfl rfl ?_
   refine yN ?_
   dsimp only [St.put]
   exact ⟨k2 + 1, by omega, by omega, ⟨⟨rfl, rfl⟩, zF, zB, zN, zX⟩⟩
  have hwn : w ∉ B := of_decide_eq_false hc
  have hin := hAd w hwn
  obtain ⟨P, hP⟩ : ∃ P, placesL (allP t) w = P := ⟨_, rfl⟩
  rw [hP] at hPl hin hpl
  refine aw_skip ?_
  refine K34 _ ?_
  refine yS fun _ K36 => ?_
  refine yR ?_
  try dsimp only [St.put]
  refine aops_s rfl (s_load_agg' rfl rfl rfl) ?_
  refine yM rfl rfl ?_
  try dsimp only [St.put]
  refine aops_e rfl (e_call_pure rfl rfl rfl (hPl) ?_)
  refine yM rfl rfl ?_
  refine yX rfl rfl rfl rfl ?_
  refine yX rfl rfl rfl rfl ?_
  refine yA rfl rfl ?_
  refine yA rfl rfl ?_
  refine yN ?_
  dsimp only [St.put]
  refine K36 _ ?_
  refine yS fun _ K37 => ?_
  refine yS fun _ K38 => ?_
  refine yR ?_
  refine yM rfl rfl ?_
  refine aops_n rfl (n_bool (c := false) (n_neq rfl rfl rfl) (not_dec_f rfl)) ?_
  refine yN ?_
  dsimp only [St.put]
  refine K38 _ ?_
  refine aw_cond rfl (fun h => by cases h) (fun _ => ?_)
  refine aw_skip ?_
  refine K37 _ ?_
  refine yS fun _ K39 => ?_
  refine yR ?_
  refine yM rfl rfl ?_
  refine aops_n rfl (n_len' rfl rfl (List.length_map _)) ?_
  refine yM rfl rfl ?_
  refine yN ?_
  dsimp only [St.put]
  refine K39 _ ?_
  refine aw_block ?_
  refine aw_wipe 130 ?_
  simp only [firsts, getA, Nat.reduceAdd, List.getD_cons_zero, List.getD_cons_succ, List.getD_nil, natBeq, Nat.reduceBEq, cond_true, cond_false]
  refine aw_forget (G) zX ?_
  dsimp only
  refine aw_loopD (X := Nat) (fun j => j ≤ P.length) (fun j => P.length - j) (fun j => [(25, .any), (26, .any), (28, .any), (129, .v (.int .i64 (j : Int)))]) (fun j G' => G') 0 rfl ?_ ?_ (fun _ _ h => h) ?_ ?_ ?_
  ·exact Nat.zero_le _
  ·exact zF
  ·rintro j hI
   exact zL
  ·exact fun _ _ _ _ h => .inl h
  rintro j hI6
  dsimp only at hI6 ⊢
  refine yS fun _ K40 => ?_
  refine yR ?_
  refine aops_n rfl (n_lss rfl rfl rfl) ?_
  refine yN ?_
  dsimp only [St.put]
  refine K40 _ ?_
  refine yS fun _ K41 => ?_
  refine aw_cond rfl (fun hc => ?_) (fun hc => ?_)
  ·replace hc := of_decide_eq_true hc
   obtain ⟨q, hq⟩ : ∃ q, P[j]? = some q := some_of_lt (by omega)
   refine aw_skip ?_
   refine K41 _ ?_
   refine yS fun _ K42 => ?_
   refine aw_block ?_
   refine yS fun _ K43 => ?_
   refine yR ?_
   refine aops_n rfl (n_indexAddr rfl rfl rfl rfl (map_get (by assumption)) (Enc.len _)) ?_
   refine yE rfl rfl rfl ?_
   try dsimp only [St.put]
   refine aops_e rfl (e_allocC rfl ?_)
   try dsimp only [St.put]
   refine aops_e rfl (e_store_all rfl rfl rfl zG rfl rfl (by rfl) ?_)
   refine yN ?_
   dsimp only [St.put]
   refine K43 _ ?_
   refine aw_commitD (i := 25) rfl zG (by first | exact List.cons_ne_nil _ _ | (simp; done) | (simp [putAt]; done)) ?_
   dsimp only
   refine yS fun _ K44 => ?_
   refine yR ?_
   refine yA rfl rfl ?_
   refine yN ?_
   dsimp only [St.put]
   refine K44 _ ?_
   refine yS fun _ K45 => ?_
   refine yS fun _ K46 => ?_
   refine yR ?_
   refine yM rfl rfl ?_
   refine aops_n rfl (n_len' rfl rfl (List.length_map _)) ?_
   refine yM rfl rfl ?_
   refine yN ?_
   dsimp only [St.put]
   refine K46 _ ?_
   refine aw_block ?_
   refine aw_wipe 136 ?_
   simp only [firsts, getA, Nat.reduceAdd, List.getD_cons_zero, List.getD_cons_succ, List.getD_nil, natBeq, Nat.reduceBEq, cond_true, cond_false]
   refine aw_forget (G) zX ?_
   dsimp only
   refine aw_loopD (X := Nat × Bool) (fun y => y.1 ≤ D.length ∧ decide (q ∈ D.take y.1) = y.2) (fun y => D.length - y.1) (fun y => [(26, .v (.bool y.2)), (28, .any), (135, .v (.int .i64 (y.1 : Int)))]) (fun y G' => G') (0, false) rfl ?_ ?_ (fun _ _ h => h) ?_ ?_ ?_
   ·exact ⟨Nat.zero_le _, rfl⟩
   ·exact zF
   ·rintro ⟨m, b2⟩ hI
    exact zL
   ·exact fun _ _ _ _ h => .inl h
   rintro ⟨m, b2⟩ hM
   dsimp only at hM ⊢
   refine yS fun _ K47 => ?_
   refine yR ?_
   refine aops_n rfl (n_lss rfl rfl rfl) ?_
   refine yN ?_
   dsimp only [St.put]
   refine K47 _ ?_
   refine yS fun _ K48 => ?_
   refine aw_cond rfl (fun hc => ?_) (fun hc => ?_)
   ·replace hc := of_decide_eq_true hc
    obtain ⟨d, hd⟩ : ∃ d, D[m]? = some d := some_of_lt (by omega)
    refine aw_skip ?_
    refine K48 _ ?_
    refine yS fun _ K49 => ?_
    refine aw_block ?_
    refine yS fun _ K50 => ?_
    refine yR ?_
    refine aops_n rfl (n_indexAddr rfl rfl rfl rfl (map_get (by assumption)) (Enc.len _)) ?_
    refine yE rfl rfl rfl ?_
    try dsimp only [St.put]
    refine aops_e rfl (e_allocC rfl ?_)
    try dsimp only [St.put]
    refine aops_e rfl (e_store_all rfl rfl rfl zG rfl rfl (by rfl) ?_)
    refine yN ?_
    dsimp only [St.put]
    refine K50 _ ?_
    refine aw_commitD (i := 28) rfl zG (by first | exact List.cons_ne_nil _ _ | (simp; done) | (simp [putAt]; done)) ?_
    dsimp only
    refine yR ?_
    refine yM rfl rfl ?_
    refine yM rfl rfl ?_
    refine aops_split (fun hs => ?_) (fun hs => ?_)
    ·have s2 := hs
     refine yK rfl ?_
     refine yK rfl ?_
     refine yK rfl ?_
     refine aops_n rfl (n_pt rfl rfl (by constructor)) ?_
     refine yA rfl rfl ?_
     refine yN ?_
     dsimp only [St.put]
     refine K49 _ ?_
     refine yR ?_
     refine aops_n rfl (n_add rfl rfl rfl (by omega)) ?_
     refine yM rfl rfl ?_
     refine yN ?_
     dsimp only [St.put]
     have hst := mem_step (p := q) hd
     rw [hM.2] at hst
     first
     | (have e1 : b2 = true := s2
        rw [e1, Bool.true_or] at hst
        exact ⟨(m + 1, true), by (dsimp only; omega), ⟨by (dsimp only; omega), hst⟩, ⟨⟨rfl, rfl⟩, zF, zB, zN, zX⟩⟩)
     | (have e1 : b2 = false := s2
        rw [e1, Bool.false_or, show decide (d = q) = decide (q = d) by rw [decide_eq_decide]; exact eq_comm] at hst
        exact ⟨(m + 1, decide (q = d)), by (dsimp only; omega), ⟨by (dsimp only; omega), hst⟩, ⟨⟨rfl, rfl⟩, zF, zB, zN, zX⟩⟩)
    have s2 := hs
    refine yE rfl rfl rfl ?_
    refine yE rfl rfl rfl ?_
    refine aops_n rfl (n_agg_eql (x := q) (y := d) rfl rfl rfl) ?_
    refine aops_n rfl (n_pf rfl rfl (by constructor)) ?_
    refine yA rfl rfl ?_
    refine yN ?_
    dsimp only [St.put]
    refine K49 _ ?_
    refine yR ?_
    refine aops_n rfl (n_add rfl rfl rfl (by omega)) ?_
    refine yM rfl rfl ?_
    refine yN ?_
    dsimp only [St.put]
    have hst := mem_step (p := q) hd
    rw [hM.2] at hst
    first
    | (have e1 : b2 = true := s2
       rw [e1, Bool.true_or] at hst
       exact ⟨(m + 1, true), by (dsimp only; omega), ⟨by (dsimp only; omega), hst⟩, ⟨⟨rfl, rfl⟩, zF, zB, zN, zX⟩⟩)
    | (have e1 : b2 = false := s2
       rw [e1, Bool.false_or, show decide (d = q) = decide (q = d) by rw [decide_eq_decide]; exact eq_comm] at hst
       exact ⟨(m + 1, decide (q = d)), by (dsimp only; omega), ⟨by (dsimp only; omega), hst⟩, ⟨⟨rfl, rfl⟩, zF, zB, zN, zX⟩⟩)
   replace hc := of_decide_eq_false hc
   have hqd := hM.2
   rw [take_all (show D.length ≤ m by omega), decide_eq_true (hin q (mem_of_get hq))] at hqd
   subst hqd
   refine aw_exit ?_
   refine K45 _ ?_
   refine yS fun _ K51 => ?_
   refine yR ?_
   refine yM rfl rfl ?_
   refine aops_n rfl (n_not rfl rfl) ?_
   refine yN ?_
   dsimp only [St.put]
   refine K51 _ ?_
   refine aw_cond rfl (fun h => by cases h) (fun _ => ?_)
   refine aw_skip ?_
   refine K42 _ ?_
   refine yR ?_
   refine aops_n rfl (n_add rfl rfl rfl (by omega)) ?_
   refine yM rfl rfl ?_
   refine yN ?_
   dsimp only [St.put]
   exact ⟨j + 1, by omega, by omega, ⟨⟨rfl, rfl⟩, zF, zB, zN, zX⟩⟩
  try replace hc := of_decide_eq_false hc
  refine aw_exit ?_
  refine K32 _ ?_
  refine yR ?_
  refine aops_n rfl (n_add rfl rfl rfl (by omega)) ?_
  refine yM rfl rfl ?_
  refine yN ?_
  dsimp only [St.put]
  exact ⟨k2 + 1, by omega, by omega, ⟨⟨rfl, rfl⟩, zF, zB, zN, zX⟩⟩
 try replace hc := of_decide_eq_false hc
 refine aw_exit ?_
 refine K28 _ ?_
 refine yS fun _ K52 => ?_
 refine yR ?_
 refine yM rfl rfl ?_
 refine yA rfl rfl ?_
 refine yN ?_
 dsimp only [St.put]
 refine K52 _ ?_
 refine aw_ret ?_
 refine ends_1 rfl (by constructor) zN zS ?_
 rfl
end Go.Proofs.YtejhjijbgceklaaDoor
