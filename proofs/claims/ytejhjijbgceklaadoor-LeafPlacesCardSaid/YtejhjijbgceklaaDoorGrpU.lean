/-
  What the walks through the program rest on: values, states, steps, calls (LiFacts, LkPlaces).
-/
import Derived.Test.YtejhjijbgceklaaDoorGrpQ
import Derived.Test.YtejhjijbgceklaaDoorAbRem
import Derived.Test.YtejhjijbgceklaaDoorKxBefore
namespace Go.AB
open Go Go.RowKit
open Go.AB.Enc (cells)
open Go.PB (Chap TextD PlaceD ReadingD CopyD WayD)
theorem u16_fit {n : Int} (h : (C.v (.int .u16 n)).fit) : 0 ≤ n ∧ n ≤ 65535 := by
 have := okV_int.1 (fit_v.1 h)
 exact this
theorem n_remE {P : Program} {o : Oper} {st : St} {xt yt : TypeId} {x y : Operand} {m n r : Int} (hr : m % n = r) (ho : o.op = .binOp .rem xt x y yt) (hx : evC st x = .v (.int .i64 m)) (hy : evC st y = .v (.int .i64 n)) (hm : 0 ≤ m ∧ m ≤ 9223372036854775807) (hn : 0 < n) : NStep P o st (.v (.int .i64 r)) := hr ▸ n_rem ho hx hy hm hn
section
variable {t : TextD} {i k : Nat} {x y : PW}
theorem readyT_true : readyT t = true ↔ greatB t = false ∧ textB t = true := by simp [readyT]
theorem allP_pos (ht : textB t = true) : 1 ≤ (allP t).length := by
 obtain ⟨h1, _, h2⟩ := text_ok ht
 obtain ⟨c, hc⟩ : ∃ c, t[0]? = some c := ⟨t[0], List.getElem?_eq_getElem (by omega)⟩
 obtain ⟨h3, _, h4⟩ := h2 c (List.mem_of_getElem? hc)
 obtain ⟨l, hl⟩ : ∃ l, c.lines[0]? = some l := ⟨c.lines[0], List.getElem?_eq_getElem (by omega)⟩
 obtain ⟨h5, _⟩ := h4 l (List.mem_of_getElem? hl)
 have := (upP_prefix hc hl l.length).length_le
 simp only [List.length_append, lineP, List.length_mapIdx, List.take_length] at this
 omega
theorem mod_at (ht : textB t = true) {a : Int} (ha : 0 ≤ a) : ∃ (i : Nat) (x : PW), a % ((allP t).length : Int) = (i : Int) ∧ (allP t)[i]? = some x := by
 have h1 := allP_pos ht
 have h2 := Int.emod_nonneg a (show ((allP t).length : Int) ≠ 0 by omega)
 have h3 := Int.emod_lt_of_pos a (show (0 : Int) < ((allP t).length : Int) by omega)
 have hlt : (a % ((allP t).length : Int)).toNat < (allP t).length := by omega
 exact ⟨_, (allP t)[(a % ((allP t).length : Int)).toNat], by omega, List.getElem?_eq_getElem hlt⟩
theorem at_place (hx : (allP t)[i]? = some x) : placeB t x.1 = true := (allP_at hx).1
theorem at_before (hx : (allP t)[i]? = some x) (hy : (allP t)[k]? = some y) : cmpL (keyP x.1) (keyP y.1) < 0 ↔ (i : Int) < (k : Int) := by
 have h := num_lt (at_place hx) (at_place hy)
 rw [num_at hx rfl, num_at hy rfl] at h
 rw [cmpL_lt (by rfl), ← h]
 omega
end
end Go.AB
namespace Go.Proofs.YtejhjijbgceklaaDoor
set_option maxRecDepth 10000
open Go.RowKit Go.AB
open Go.AB.Enc (cells)
open Go.PB (Chap TextD PlaceD ReadingD CopyD WayD)
theorem lWords (t : TextD) (ht : textB t = true) : Pure Tryd.prog 26 [textC t] (.tup [.v (.int .i64 ((allP t).length : Int)), .v (.int .i64 0)]) := by
 have := leafWords_pure t
 rwa [show wordsN t = ((allP t).length : Int) by simp [wordsN, ht], show textEr t = 0 by simp [textEr, ht]] at this
theorem lPlaceOf (t : TextD) (ht : textB t = true) {i : Nat} {x : PW} (hx : (allP t)[i]? = some x) : Pure Tryd.prog 27 [textC t, .v (.int .i64 (i : Int))] (.tup [val x.1, .v (.int .i64 0)]) := by
 have hlt := (List.getElem?_eq_some_iff.1 hx).1
 have hE : placeOfEr t (i : Int) = 0 := by
  have : inB (i : Int) 0 (((allP t).length : Int) - 1) = true := inB_true.2 (by omega)
  simp [placeOfEr, ht, this]
 have := leafPlaceOf_pure t (i : Int)
 rwa [hE, show placeOfV t (i : Int) = x.1 by simp [placeOfV, hE, plAt_some hx]] at this
theorem lAt (t : TextD) (ht : textB t = true) {i : Nat} {x : PW} (hx : (allP t)[i]? = some x) : Pure Tryd.prog 28 [textC t, val x.1] (.tup [.v (.string x.2), .v (.int .i64 0)]) := by
 have hE : placedEr t x.1 = 0 := by simp [placedEr, ht, at_place hx]
 have := leafAt_pure t x.1
 rwa [hE, show atWord t x.1 = x.2 by
  have := (allP_at hx).2
  unfold wordP at this
  simp only [atWord, ht, at_place hx, Bool.and_self, cond_true]
  exact this] at this
theorem lPlace (t : TextD) (ht : textB t = true) {x : PlaceD} (hx : placeB t x = true) : Pure Tryd.prog 30 [textC t, val x] (.v (.bool true)) := by
 have := Place_pure t x ht
 rwa [hx] at this
end Go.Proofs.YtejhjijbgceklaaDoor
namespace Go.AB
open Go Go.RowKit
open Go.AB.Enc (cells)
open Go.PB (Chap TextD PlaceD ReadingD CopyD WayD)
theorem allP_wordB {t : TextD} (ht : textB t = true) {x : PW} (hx : x ∈ allP t) : wordB x.2 = true := by
 obtain ⟨l, hl, h1⟩ := List.mem_flatten.1 hx
 obtain ⟨k, hk, rfl⟩ := List.mem_mapIdx.1 hl
 obtain ⟨l2, hl2, h2⟩ := List.mem_flatten.1 h1
 obtain ⟨n, hn, rfl⟩ := List.mem_mapIdx.1 hl2
 obtain ⟨w, hw, rfl⟩ := List.mem_mapIdx.1 h2
 simp only [textB, Bool.and_eq_true, List.all_eq_true, chapB, lineB] at ht
 exact (((ht.1.2 t[k] (List.getElem_mem hk)).2 _ (List.getElem_mem hn)).2 _ (List.getElem_mem hw))
theorem allP_order (t : TextD) : (allP t).Pairwise fun x y => cmpL (keyP x.1) (keyP y.1) < 0 := by
 rw [List.pairwise_iff_getElem]
 intro i j hi hj hij
 exact (at_before (List.getElem?_eq_getElem hi) (List.getElem?_eq_getElem hj)).2 (by omega)
theorem placesL_order (t : TextD) (w : ByteArray) : (placesL (allP t) w).Pairwise fun p q => cmpL (keyP p) (keyP q) < 0 := by
 unfold placesL
 rw [List.pairwise_map]
 exact (allP_order t).filter _
theorem placesL_mem {l : List PW} {w : ByteArray} {p : PlaceD} : p ∈ placesL l w ↔ (p, w) ∈ l := by
 unfold placesL
 simp only [List.mem_map, List.mem_filter, decide_eq_true_eq]
 constructor
 ·rintro ⟨⟨q, v⟩, ⟨h1, h2⟩, h3⟩
  dsimp only at h2 h3
  subst h2; subst h3
  exact h1
 exact fun h => ⟨(p, w), ⟨h, rfl⟩, rfl⟩
theorem places_in {t : TextD} {w : ByteArray} {q : PlaceD} {m : Nat} (h : (placesL (allP t) w)[m]? = some q) : placeB t q = true ∧ wordP t q = w := by
 obtain ⟨i, hi⟩ := List.getElem?_of_mem (placesL_mem.1 (List.mem_of_getElem? h))
 exact allP_at hi
theorem places_before {t : TextD} {w : ByteArray} {p q : PlaceD} {m : Nat} (hm : 0 < m) (hp : (placesL (allP t) w)[m - 1]? = some p) (hq : (placesL (allP t) w)[m]? = some q) : cmpL (keyP p) (keyP q) < 0 := by
 have h := List.pairwise_iff_getElem.1 (placesL_order t w)
 obtain ⟨h1, h2⟩ := List.getElem?_eq_some_iff.1 hp
 obtain ⟨h3, h4⟩ := List.getElem?_eq_some_iff.1 hq
 have := h (m - 1) m h1 h3 (by omega)
 rwa [h2, h4] at this
theorem voc_less {l : List ByteArray} {v w : ByteArray} {k : Nat} (hk : 0 < k) (hv : (vocL l)[k - 1]? = some v) (hw : (vocL l)[k]? = some w) : sLess v w = true := by
 have h := List.pairwise_iff_getElem.1 (vocL_sorted l)
 obtain ⟨h1, h2⟩ := List.getElem?_eq_some_iff.1 hv
 obtain ⟨h3, h4⟩ := List.getElem?_eq_some_iff.1 hw
 have := h (k - 1) k h1 h3 (by omega)
 rwa [h2, h4] at this
theorem voc_nodup (l : List ByteArray) : (vocL l).Nodup := (vocL_sorted l).imp fun {a b} h e => by subst e; exact ltS_irr h
def sumP (l : List PW) (V : List ByteArray) : Nat := (V.map fun w => (placesL l w).length).sum
theorem sumP_nil : ∀ V : List ByteArray, sumP [] V = 0
 | [] => rfl
 | w :: V => by
  have := sumP_nil V
  unfold sumP at this ⊢
  rw [List.map_cons, List.sum_cons, this]; rfl
theorem sumP_cons (x : PW) (l : List PW) : ∀ V : List ByteArray, V.Nodup → sumP (x :: l) V = (if x.2 ∈ V then 1 else 0) + sumP l V
 | [], _ => by simp [sumP]
 | w :: V, h => by
  obtain ⟨h1, h2⟩ := List.nodup_cons.1 h
  have := sumP_cons x l V h2
  unfold sumP at this ⊢
  rw [List.map_cons, List.sum_cons, this, List.map_cons, List.sum_cons]
  by_cases e : x.2 = w
  ·have hn : x.2 ∉ V := e ▸ h1
   have e1 : (placesL (x :: l) w).length = (placesL l w).length + 1 := by simp [placesL, e]
   rw [e1, if_neg hn, if_pos (by simp [e])]
   omega
  have e1 : (placesL (x :: l) w).length = (placesL l w).length := by simp [placesL, e]
  rw [e1]
  by_cases hm : x.2 ∈ V
  ·rw [if_pos hm, if_pos (List.mem_cons_of_mem _ hm)]; omega
  rw [if_neg hm, if_neg (by simp [e, hm])]; omega
theorem sumP_all {V : List ByteArray} (hV : V.Nodup) : ∀ {l : List PW}, (∀ x ∈ l, x.2 ∈ V) → sumP l V = l.length
 | [], _ => sumP_nil V
 | x :: l, h => by
  rw [sumP_cons x l V hV, if_pos (h x (List.mem_cons_self ..)), sumP_all hV fun y hy => h y (List.mem_cons_of_mem _ hy), List.length_cons]
  omega
theorem sumP_voc (t : TextD) : sumP (allP t) (vocL (wordsT t)) = (allP t).length := sumP_all (voc_nodup _) fun x hx => vocL_mem.2 (List.mem_map.2 ⟨x, hx, rfl⟩)
theorem sumP_step {l : List PW} {V : List ByteArray} {k : Nat} {w : ByteArray} (h : V[k]? = some w) : sumP l (V.take (k + 1)) = sumP l (V.take k) + (placesL l w).length := by
 unfold sumP
 rw [List.take_add_one, h, Option.toList_some, List.map_append, List.sum_append]; simp
theorem sumP_le {l : List PW} {V : List ByteArray} (k : Nat) : sumP l (V.take k) ≤ sumP l V := by
 conv => rhs; rw [← List.take_append_drop k V]
 unfold sumP
 rw [List.map_append, List.sum_append]
 omega
theorem thereP_step {P : List PlaceD} {m : Nat} {p q : PlaceD} {w s : ByteArray} {b0 : Bool} (h : P[m]? = some q) : (b0 || decide (p ∈ P.take (m + 1) ∧ w = s)) = ((b0 || decide (p ∈ P.take m ∧ w = s)) || (decide (q = p) && decide (w = s))) := by
 rw [List.take_add_one, h, Option.toList_some, Bool.eq_iff_iff]
 simp only [Bool.or_eq_true, Bool.and_eq_true, decide_eq_true_eq, List.mem_append, List.mem_singleton]
 constructor
 ·rintro (h1 | ⟨h1 | h1, h2⟩)
  ·exact .inl (.inl h1)
  ·exact .inl (.inr ⟨h1, h2⟩)
  exact .inr ⟨h1.symm, h2⟩
 rintro ((h1 | ⟨h1, h2⟩) | ⟨h1, h2⟩)
 ·exact .inl h1
 ·exact .inr ⟨.inl h1, h2⟩
 exact .inr ⟨.inr h1.symm, h2⟩
theorem thereV_step {V : List ByteArray} {k : Nat} {w s : ByteArray} {p : PlaceD} {l : List PW} (h : V[k]? = some w) (hp : p ∈ placesL l s) : decide (s ∈ V.take (k + 1)) = (decide (s ∈ V.take k) || decide (p ∈ placesL l w ∧ w = s)) := by
 rw [List.take_add_one, h, Option.toList_some, Bool.eq_iff_iff]
 simp only [Bool.or_eq_true, decide_eq_true_eq, List.mem_append, List.mem_singleton]
 constructor
 ·rintro (h1 | h1)
  ·exact .inl h1
  subst h1; exact .inr ⟨hp, rfl⟩
 rintro (h1 | ⟨_, h1⟩)
 ·exact .inl h1
 exact .inr h1.symm
end Go.AB
namespace Go.Proofs.YtejhjijbgceklaaDoor
set_option maxRecDepth 10000
open Go.RowKit Go.AB
open Go.AB.Enc (cells)
open Go.PB (Chap TextD PlaceD ReadingD CopyD WayD)
theorem lBefore {a b : PlaceD} (h : cmpL (keyP a) (keyP b) < 0) : Pure Tryd.prog 32 [val a, val b] (.v (.bool true)) := by
 have := Before_pure a b
 rwa [decide_eq_true h] at this
theorem lVocabulary (t : TextD) (ht : textB t = true) : Pure Tryd.prog 29 [textC t] (.tup [lst (vocL (wordsT t)), .v (.int .i64 0)]) := by
 have := leafVocabulary_pure t
 rwa [show vocV t = vocL (wordsT t) by simp [vocV, ht], show textEr t = 0 by simp [textEr, ht]] at this
theorem lPlaces (t : TextD) (ht : textB t = true) {w : ByteArray} (hw : wordB w = true) : Pure Tryd.prog 31 [textC t, .v (.string w)] (.tup [lst (placesL (allP t) w), .v (.int .i64 0)]) := by
 have hE : placesEr t w = 0 := by simp [placesEr, ht, hw]
 have := leafPlaces_pure t w
 rwa [hE, show placesV t w = placesL (allP t) w by simp [placesV, hE]] at this
set_option maxHeartbeats 8000000 in
theorem places_pureN (t : TextD) (a : Int) : PureN 0 kndF Tryd.prog 4 [textC t, .v (.int .u16 a)] (.v (.bool true)) := fun G nx hF hnx => by
 refine pc_named_of_body (G) (nx) Tryd.func4 rfl (.v) zN (fun hlt => zH) ?_
 simp only [Tryd.ntmps4, List.length_cons, List.length_nil, Nat.reduceAdd, Nat.reduceSub]
 refine aw_lt fun hlt => ?_
 dsimp only at hlt
 refine aw_fit 1 (fun hfa => ?_)
 replace hfa := u16_fit hfa
 refine yS fun _ K1 => ?_
 refine yR ?_
 try dsimp only [St.put]
 refine yB rfl rfl rfl ?_
 refine yA rfl rfl ?_
 refine yN ?_
 dsimp only [St.put]
 refine K1 _ ?_
 refine yS fun _ K2 => ?_
 refine yR ?_
 try dsimp only [St.put]
 refine aops_e rfl (e_call_n rfl rfl rfl (alive_pureN 0) zG (by dsimp only [St.put]; omega) ?_)
 refine yA rfl rfl ?_
 refine yN ?_
 dsimp only [St.put]
 refine K2 _ ?_
 refine yS fun _ K3 => ?_
 refine yS fun _ K4 => ?_
 refine yR ?_
 try dsimp only [St.put]
 refine aops_s rfl (s_load_agg' rfl rfl rfl) ?_
 try dsimp only [St.put]
 refine aops_e rfl (e_call_pure rfl rfl rfl (lawReady_pure t) ?_)
 refine aops_n rfl (n_not rfl rfl) ?_
 refine yM rfl rfl ?_
 refine aops_split (fun hs => ?_) (fun hs => ?_)
 ·skip
  refine yK rfl ?_
  refine yK rfl ?_
  refine aops_n rfl (n_pt rfl rfl (by constructor)) ?_
  refine yN ?_
  dsimp only [St.put]
  refine K4 _ ?_
  refine aw_cond rfl (fun _ => ?_) (fun h => by cases h)
  refine yS fun _ K5 => ?_
  refine yR ?_
  refine yM rfl rfl ?_
  refine yA rfl rfl ?_
  refine yN ?_
  dsimp only [St.put]
  refine K5 _ ?_
  refine aw_ret ?_
  refine ends_1 rfl (by constructor) zN zS ?_
  rfl
 have hr : readyT t = true := by simpa using hs
 obtain ⟨_, ht⟩ := readyT_true.1 hr
 have hN := allP_len ht
 have hN1 := allP_pos ht
 obtain ⟨i, x, hi, hx⟩ := mod_at ht hfa.1
 have hil := (List.getElem?_eq_some_iff.1 hx).1
 obtain ⟨htx1, htx2, htx3⟩ := text_ok ht
 obtain ⟨kk, nn, ww, c, l, hpe, hck, hln, hsw⟩ := placeB_at (at_place hx)
 rw [(allP_at hx).2] at hsw
 have hlc := htx3 c (mem_of_get hck)
 have hll := hlc.2.2 l (mem_of_get hln)
 have hkk := (List.getElem?_eq_some_iff.1 hck).1
 have hnn := (List.getElem?_eq_some_iff.1 hln).1
 have hww := (List.getElem?_eq_some_iff.1 hsw).1
 obtain ⟨p, s⟩ := x
 dsimp only at hpe hsw
 have hpm : p ∈ placesL (allP t) s := placesL_mem.2 (List.mem_of_getElem? hx)
 have hvl := vocL_len (wordsT t)
 have hvl2 : (wordsT t).length = (allP t).length := by simp [wordsT]
 have hsum := sumP_voc t
 have hw0 : ∀ k w, (vocL (wordsT t))[k]? = some w → (placesL (allP t) w ≠ [] ∧ wordB w = true) := fun k w h => by
  have h1 := vocL_mem.1 (List.mem_of_getElem? h)
  obtain ⟨y, hy, rfl⟩ := List.mem_map.1 h1
  exact ⟨List.ne_nil_of_mem (placesL_mem.2 hy), allP_wordB ht hy⟩
 refine yM rfl rfl ?_
 refine aops_n rfl (n_not rfl rfl) ?_
 refine aops_n rfl (n_pf rfl rfl (by constructor)) ?_
 refine yN ?_
 dsimp only [St.put]
 refine K4 _ ?_
 refine aw_cond rfl (fun h => by cases h) (fun _ => ?_)
 refine aw_skip ?_
 refine K3 _ ?_
 refine yS fun _ K6 => ?_
 refine yR ?_
 try dsimp only [St.put]
 refine aops_s rfl (s_load_agg' rfl rfl rfl) ?_
 try dsimp only [St.put]
 refine aops_e rfl (e_call_pure rfl rfl rfl (lWords t ht) ?_)
 refine yM rfl rfl ?_
 refine yX rfl rfl rfl rfl ?_
 refine yX rfl rfl rfl rfl ?_
 refine yA rfl rfl ?_
 refine yA rfl rfl ?_
 refine yN ?_
 dsimp only [St.put]
 refine K6 _ ?_
 refine yS fun _ K7 => ?_
 refine yS fun _ K8 => ?_
 refine yR ?_
 refine yM rfl rfl ?_
 refine aops_n rfl (n_bool (c := false) (n_neq rfl rfl rfl) (not_dec_f rfl)) ?_
 refine yM rfl rfl ?_
 refine yM rfl rfl ?_
 refine aops_n rfl (n_bool (c := false) (n_lss rfl rfl rfl) (decide_eq_false (by omega))) ?_
 refine aops_n rfl (n_pf rfl rfl (by constructor)) ?_
 refine yN ?_
 dsimp only [St.put]
 refine K8 _ ?_
 refine aw_cond rfl (fun h => by cases h) (fun _ => ?_)
 refine aw_skip ?_
 refine K7 _ ?_
 refine yS fun _ K9 => ?_
 refine aw_drawT [(0, none), (1, none), (2, none), (3, none), (4, none)] (fun _ => false) (fun i => [1, 2, 3, 4].contains i) 7 [true, true, true, true, true, false, false, false, false, false, false, false] (by kernel_rfl) (by kernel_rfl) ?_
 try dsimp only [St.put]
 refine acan1_s rfl rfl rfl rfl (s_load_agg' rfl rfl rfl) ?_
 refine xM rfl rfl rfl rfl rfl ?_
 refine acan1_n rfl rfl rfl rfl (n_conv rfl rfl rfl rfl (by omega)) ?_
 refine xM rfl rfl rfl rfl rfl ?_
 refine acan1_n rfl rfl rfl rfl (n_remE hi rfl rfl rfl (by omega) (by omega)) ?_
 refine acan1_nil ?_
 refine aany_step [5, 9] (by kernel_rfl) (by simp) ?_
 refine aeach_cons ?_ ?_
 ·try dsimp only [St.put]
  refine aone_e rfl rfl rfl (e_call_pure rfl rfl rfl (lPlaceOf t ht hx) ?_)
  refine aany_quiet [(6, none), (7, none), (8, none)] (fun i => [6, 7, 8].contains i) 3 [true, true, true, true, true, true, true, true, true, false, false, false] (by kernel_rfl) ?_
  refine xM rfl rfl rfl rfl rfl ?_
  refine acan1_n rfl rfl rfl rfl (n_extract rfl rfl rfl) ?_
  refine acan1_n rfl rfl rfl rfl (n_extract rfl rfl rfl) ?_
  refine acan1_nil ?_
  refine aany_step [9] (by kernel_rfl) (by simp) ?_
  refine aeach_cons ?_ ?_
  ·try dsimp only [St.put]
   refine aone_e rfl rfl rfl (e_allocC rfl ?_)
   refine aany_step [10] (by kernel_rfl) (by simp) ?_
   refine aeach_cons ?_ ?_
   ·try dsimp only [St.put]
    refine aone_e rfl rfl rfl (e_store_all rfl rfl rfl zG rfl rfl (by rfl) ?_)
    refine aany_quiet [(11, none)] (fun i => [11].contains i) 0 [true, true, true, true, true, true, true, true, true, true, true, true] (by kernel_rfl) ?_
    refine acan1_n rfl rfl rfl rfl (n_as rfl (by constructor)) ?_
    refine acan1_nil ?_
    dsimp only [St.put]
    refine aany_of_tr (tr_commit (i := 8) rfl zG (by first | exact List.cons_ne_nil _ _ | (simp; done) | (simp [putAt]; done))) ?_
    dsimp only
    refine aany_nil (by kernel_rfl) ?_
    refine K9 _ ?_
    refine yS fun _ K10 => ?_
    refine yR ?_
    try dsimp only [St.put]
    refine aops_s rfl (s_load_agg' rfl rfl rfl) ?_
    refine yE rfl rfl rfl ?_
    try dsimp only [St.put]
    refine aops_e rfl (e_call_pure rfl rfl rfl (lAt t ht hx) ?_)
    refine yM rfl rfl ?_
    refine yX rfl rfl rfl rfl ?_
    refine yX rfl rfl rfl rfl ?_
    refine yA rfl rfl ?_
    refine yA rfl rfl ?_
    refine yN ?_
    dsimp only [St.put]
    refine K10 _ ?_
    refine yS fun _ K11 => ?_
    refine yR ?_
    try dsimp only [St.put]
    refine aops_s rfl (s_load_agg' rfl rfl rfl) ?_
    try dsimp only [St.put]
    refine aops_e rfl (e_call_pure rfl rfl rfl (lVocabulary t ht) ?_)
    refine yM rfl rfl ?_
    refine yX rfl rfl rfl rfl ?_
    refine yX rfl rfl rfl rfl ?_
    refine yA rfl rfl ?_
    refine yA rfl rfl ?_
    refine yN ?_
    dsimp only [St.put]
    subst hpe
    refine K11 _ ?_
    refine yS fun _ K12 => ?_
    refine aw_wipe 14 ?_
    simp only [firsts, getA, Nat.reduceAdd, List.getD_cons_zero, List.getD_cons_succ, List.getD_nil, natBeq, Nat.reduceBEq, cond_true, cond_false]
    refine aw_cutD (X := Unit) (fun _ => True) (fun _ => [(96, .v (.bool false))]) (fun _ G' => G') rfl ?_ (fun _ _ _ _ h => .inl h) ?_ ?_
    ·rintro _ hI
     exact zL
    ·refine aw_drawT [(0, none), (1, none), (2, none), (3, none), (4, none), (5, none), (6, none), (7, none), (8, none), (9, none), (10, none), (11, none), (12, none)] (fun _ => false) (fun i => [0, 1, 2, 3, 4, 5, 6, 7, 8, 9, 10].contains i) 22 [true, true, true, true, true, true, true, true, true, true, true, true, true, false, false, false, false, false, false, false, false, false, false, false, false, false, false, false, false, false, false, false, false, false, false] (by kernel_rfl) (by kernel_rfl) ?_
     refine xM rfl rfl rfl rfl rfl ?_
     refine acan1_n rfl rfl rfl rfl (n_bool (c := false) (n_neq rfl rfl rfl) (not_dec_f rfl)) ?_
     refine xM rfl rfl rfl rfl rfl ?_
     refine xM rfl rfl rfl rfl rfl ?_
     refine acan1_n rfl rfl rfl rfl (n_bool (c := false) (n_neq rfl rfl rfl) (not_dec_f rfl)) ?_
     refine acan1_n rfl rfl rfl rfl (n_pf rfl rfl (by constructor)) ?_
     refine xM rfl rfl rfl rfl rfl ?_
     refine xM rfl rfl rfl rfl rfl ?_
     refine acan1_n rfl rfl rfl rfl (n_bool (c := false) (n_neq rfl rfl rfl) (not_dec_f rfl)) ?_
     refine acan1_n rfl rfl rfl rfl (n_pf rfl rfl (by constructor)) ?_
     refine xM rfl rfl rfl rfl rfl ?_
     try dsimp only [St.put]
     refine acan1_s rfl rfl rfl rfl (s_load_agg' rfl rfl rfl) ?_
     try dsimp only [St.put]
     refine acan1_s rfl rfl rfl rfl (s_load_agg' rfl rfl (Enc.len _)) ?_
     refine acan1_nil ?_
     refine aany_step [13] (by kernel_rfl) (by simp) ?_
     refine aeach_cons ?_ ?_
     ·try dsimp only [St.put]
      refine aone_e rfl rfl rfl (e_call_pure rfl rfl rfl (lPlace t ht (at_place hx)) ?_)
      refine aany_quiet [(14, none), (15, none), (16, none), (17, none), (18, none), (19, none), (20, none), (21, none), (22, none), (23, none), (24, none), (25, none), (26, none), (27, none), (28, none), (29, none), (30, none), (31, none), (32, none), (33, none), (34, none)] (fun i => [14, 15, 16, 17, 19, 21, 22, 24, 26, 28, 30, 32, 33, 34].contains i) 0 [true, true, true, true, true, true, true, true, true, true, true, true, true, true, true, true, true, true, true, true, true, true, true, true, true, true, true, true, true, true, true, true, true, true, true] (by kernel_rfl) ?_
      refine acan1_n rfl rfl rfl rfl (n_not rfl rfl) ?_
      refine acan1_n rfl rfl rfl rfl (n_pf rfl rfl (by constructor)) ?_
      refine xM rfl rfl rfl rfl rfl ?_
      refine acan1_n rfl rfl rfl rfl (n_fieldAddr' rfl rfl rfl) ?_
      try dsimp only [St.put]
      refine acan1_s rfl rfl rfl rfl (s_load rfl rfl) ?_
      refine acan1_n rfl rfl rfl rfl (n_fieldAddr' rfl rfl rfl) ?_
      try dsimp only [St.put]
      refine acan1_s rfl rfl rfl rfl (s_load rfl rfl) ?_
      try dsimp only [St.put]
      refine acan1_n rfl rfl rfl rfl (n_indexAddr rfl rfl rfl rfl (map_get (by assumption)) (Enc.len _)) ?_
      refine acan1_n rfl rfl rfl rfl (n_fieldAddr' rfl rfl rfl) ?_
      try dsimp only [St.put]
      refine acan1_s rfl rfl rfl rfl (s_load rfl rfl) ?_
      refine acan1_n rfl rfl rfl rfl (n_fieldAddr' rfl rfl rfl) ?_
      try dsimp only [St.put]
      refine acan1_s rfl rfl rfl rfl (s_load rfl rfl) ?_
      try dsimp only [St.put]
      refine acan1_n rfl rfl rfl rfl (n_indexAddr rfl rfl rfl rfl (map_get (by assumption)) (Enc.len _)) ?_
      try dsimp only [St.put]
      refine acan1_s rfl rfl rfl rfl (s_load rfl rfl) ?_
      refine acan1_n rfl rfl rfl rfl (n_fieldAddr' rfl rfl rfl) ?_
      try dsimp only [St.put]
      refine acan1_s rfl rfl rfl rfl (s_load rfl rfl) ?_
      try dsimp only [St.put]
      refine acan1_n rfl rfl rfl rfl (n_indexAddr rfl rfl rfl rfl (map_get (by assumption)) (Enc.len _)) ?_
      try dsimp only [St.put]
      refine acan1_s rfl rfl rfl rfl (s_load rfl rfl) ?_
      refine xM rfl rfl rfl rfl rfl ?_
      refine acan1_n rfl rfl rfl rfl (n_bool (c := false) (n_strne (m := s) (n := s) rfl rfl rfl) (not_dec_f rfl)) ?_
      refine acan1_n rfl rfl rfl rfl (n_pf rfl rfl (by constructor)) ?_
      refine acan1_nil ?_
      dsimp only [St.put]
      refine aany_nil (by kernel_rfl) ?_
      exact ⟨(), trivial, ⟨⟨rfl, rfl⟩, zF, zB, zN, zX⟩⟩
     exact aeach_nil
    rintro _ hI
    dsimp only at hI ⊢
    refine aw_cond rfl (fun h => by cases h) (fun _ => ?_)
    refine aw_skip ?_
    refine K12 _ ?_
    refine yS fun _ K14 => ?_
    refine yR ?_
    refine yA rfl rfl ?_
    refine yA rfl rfl ?_
    refine yN ?_
    dsimp only [St.put]
    refine K14 _ ?_
    refine yS fun _ K15 => ?_
    refine aw_wipe 100 ?_
    simp only [firsts, getA, Nat.reduceAdd, List.getD_cons_zero, List.getD_cons_succ, List.getD_nil, natBeq, Nat.reduceBEq, cond_true, cond_false]
    refine aw_cutD (X := Unit) (fun _ => True) (fun _ => [(2, .elem [lst t]), (5, .v (.bool true)), (6, .v (.int .i64 ((allP t).length : Int))), (8, .elem (cells (⟨kk, nn, ww⟩ : PlaceD))), (10, .v (.string s)), (12, lst (vocL (wordsT t))), (14, .v (.int .i64 0)), (15, .v (.bool false)), (97, lst (vocL (wordsT t))), (98, .v (.int .i64 ((vocL (wordsT t)).length : Int))), (99, .v (.int .i64 0))]) (fun _ G' => G') rfl ?_ (fun _ _ _ _ h => .inl h) ?_ ?_
    ·rintro _ hI
     exact zL
    ·refine yR ?_
     refine yM rfl rfl ?_
     refine aops_n rfl (n_len' rfl rfl (List.length_map _)) ?_
     refine yM rfl rfl ?_
     refine yN ?_
     dsimp only [St.put]
     exact ⟨(), trivial, ⟨⟨rfl, rfl⟩, zF, zB, zN, zX⟩⟩
    rintro _ hI
    dsimp only at hI ⊢
    refine aw_block ?_
    refine aw_wipe 100 ?_
    simp only [firsts, getA, Nat.reduceAdd, List.getD_cons_zero, List.getD_cons_succ, List.getD_nil, natBeq, Nat.reduceBEq, cond_true, cond_false]
    refine aw_forget (G) zX ?_
    dsimp only
    refine aw_loopD (X := Nat) (fun k => k ≤ (vocL (wordsT t)).length) (fun k => (vocL (wordsT t)).length - k) (fun k => [(14, .v (.int .i64 (sumP (allP t) ((vocL (wordsT t)).take k) : Int))), (15, .v (.bool (decide (s ∈ (vocL (wordsT t)).take k)))), (16, .any), (17, .any), (18, .any), (19, .any), (20, .any), (21, .any), (99, .v (.int .i64 (k : Int)))]) (fun k G' => G') 0 rfl ?_ ?_ (fun _ _ h => h) ?_ ?_ ?_
    ·exact Nat.zero_le _
    ·exact zF
    ·rintro k hI
     exact zL
    ·exact fun _ _ _ _ h => .inl h
    rintro k hI
    dsimp only at hI ⊢
    refine yS fun _ K17 => ?_
    refine yR ?_
    refine aops_n rfl (n_lss rfl rfl rfl) ?_
    refine yN ?_
    dsimp only [St.put]
    refine K17 _ ?_
    refine yS fun _ K18 => ?_
    refine aw_cond rfl (fun hc => ?_) (fun hc => ?_)
    ·replace hc := of_decide_eq_true hc
     obtain ⟨w, hw⟩ : ∃ w, (vocL (wordsT t))[k]? = some w := some_of_lt (by omega)
     obtain ⟨hne, hwB⟩ := hw0 k w hw
     have hpl := placesL_len (allP t) w
     refine aw_skip ?_
     refine K18 _ ?_
     refine yS fun _ K19 => ?_
     refine aw_block ?_
     refine yS fun _ K20 => ?_
     refine yR ?_
     refine yM rfl rfl ?_
     refine aops_n rfl (n_indexAddr rfl rfl rfl rfl (map_get (by assumption)) (Enc.len _)) ?_
     refine yL rfl rfl rfl ?_
     refine yA rfl rfl ?_
     refine yA rfl rfl ?_
     refine yN ?_
     dsimp only [St.put]
     refine K20 _ ?_
     refine yS fun _ K21 => ?_
     refine yR ?_
     try dsimp only [St.put]
     refine aops_s rfl (s_load_agg' rfl rfl rfl) ?_
     refine yM rfl rfl ?_
     try dsimp only [St.put]
     refine aops_e rfl (e_call_pure rfl rfl rfl (lPlaces t ht hwB) ?_)
     refine yM rfl rfl ?_
     refine yX rfl rfl rfl rfl ?_
     refine yX rfl rfl rfl rfl ?_
     refine yA rfl rfl ?_
     refine yA rfl rfl ?_
     refine yN ?_
     dsimp only [St.put]
     refine K21 _ ?_
     refine yS fun _ K22 => ?_
     refine aw_wipe 100 ?_
     simp only [firsts, getA, Nat.reduceAdd, List.getD_cons_zero, List.getD_cons_succ, List.getD_nil, natBeq, Nat.reduceBEq, cond_true, cond_false]
     refine aw_cutD (X := Unit) (fun _ => True) (fun _ => [(129, .v (.bool false))]) (fun _ G' => G') rfl ?_ (fun _ _ _ _ h => .inl h) ?_ ?_
     ·rintro _ hI
      exact zL
     ·refine yR ?_
      refine yM rfl rfl ?_
      refine aops_n rfl (n_bool (c := false) (n_neq rfl rfl rfl) (not_dec_f rfl)) ?_
      refine yM rfl rfl ?_
      refine yM rfl rfl ?_
      refine aops_n rfl (n_len' rfl rfl (List.length_map _)) ?_
      refine aops_n rfl (n_bool (c := false) (n_eql rfl rfl rfl) (decide_eq_false (fun e => hne (List.eq_nil_of_length_eq_zero (by omega))))) ?_
      refine aops_n rfl (n_pf rfl rfl (by constructor)) ?_
      refine yM rfl rfl ?_
      refine yM rfl rfl ?_
      refine aops_n rfl (n_gtr rfl rfl rfl) ?_
      refine aops_split (fun hs => ?_) (fun hs => ?_)
      ·have s1 := of_decide_eq_true hs
       obtain ⟨v, hv⟩ : ∃ v, (vocL (wordsT t))[k - 1]? = some v := some_of_lt (by omega)
       have hvw := voc_less (by omega) hv hw
       refine yM rfl rfl ?_
       refine yM rfl rfl ?_
       refine yM rfl rfl ?_
       refine aops_n rfl (n_sub rfl rfl rfl (by omega)) ?_
       try dsimp only [St.put]
       refine aops_n rfl (n_indexAddr (k := k - 1) rfl rfl rfl (by omega) (map_get hv) (Enc.len _)) ?_
       refine yL rfl rfl rfl ?_
       refine yM rfl rfl ?_
       refine aops_n rfl (n_bool (c := false) (n_strge rfl rfl rfl) (by rw [hvw]; rfl)) ?_
       refine aops_n rfl (n_pt rfl rfl (by constructor)) ?_
       refine aops_n rfl (n_pf rfl rfl (by constructor)) ?_
       refine yN ?_
       dsimp only [St.put]
       exact ⟨(), trivial, ⟨⟨rfl, rfl⟩, zF, zB, zN, zX⟩⟩
      skip
      refine yM rfl rfl ?_
      refine yK rfl ?_
      refine yK rfl ?_
      refine yK rfl ?_
      refine yK rfl ?_
      refine yK rfl ?_
      refine yK rfl ?_
      refine yK rfl ?_
      refine aops_n rfl (n_pf rfl rfl (by constructor)) ?_
      refine aops_n rfl (n_pf rfl rfl (by constructor)) ?_
      refine yN ?_
      dsimp only [St.put]
      exact ⟨(), trivial, ⟨⟨rfl, rfl⟩, zF, zB, zN, zX⟩⟩
     rintro _ hI
     dsimp only at hI ⊢
     refine aw_cond rfl (fun h => by cases h) (fun _ => ?_)
     refine aw_skip ?_
     refine K22 _ ?_
     refine yS fun _ K24 => ?_
     refine yS fun _ K25 => ?_
     refine yR ?_
     refine yM rfl rfl ?_
     refine aops_n rfl (n_len' rfl rfl (List.length_map _)) ?_
     refine yM rfl rfl ?_
     refine yN ?_
     dsimp only [St.put]
     refine K25 _ ?_
     refine aw_block ?_
     refine aw_wipe 133 ?_
     simp only [firsts, getA, Nat.reduceAdd, List.getD_cons_zero, List.getD_cons_succ, List.getD_nil, natBeq, Nat.reduceBEq, cond_true, cond_false]
     refine aw_forget (G) zX ?_
     dsimp only
     refine aw_loopD (X := Nat × Bool) (fun y => y.1 ≤ (placesL (allP t) w).length ∧ (decide (s ∈ (vocL (wordsT t)).take k) || decide ((⟨kk, nn, ww⟩ : PlaceD) ∈ (placesL (allP t) w).take y.1 ∧ w = s)) = y.2) (fun y => (placesL (allP t) w).length - y.1) (fun y => [(15, .v (.bool y.2)), (20, .any), (21, .any), (132, .v (.int .i64 (y.1 : Int)))]) (fun y G' => G') (0, decide (s ∈ (vocL (wordsT t)).take k)) rfl ?_ ?_ (fun _ _ h => h) ?_ ?_ ?_
     ·exact ⟨Nat.zero_le _, by simp⟩
     ·exact zF
     ·rintro ⟨m, bb⟩ hI
      exact zL
     ·exact fun _ _ _ _ h => .inl h
     rintro ⟨m, bb⟩ hJ
     dsimp only at hJ ⊢
     refine yS fun _ K26 => ?_
     refine yR ?_
     refine aops_n rfl (n_lss rfl rfl rfl) ?_
     refine yN ?_
     dsimp only [St.put]
     refine K26 _ ?_
     refine yS fun _ K27 => ?_
     refine aw_cond rfl (fun hc => ?_) (fun hc => ?_)
     ·replace hc := of_decide_eq_true hc
      obtain ⟨q, hq⟩ : ∃ q, (placesL (allP t) w)[m]? = some q := some_of_lt (by omega)
      obtain ⟨hqB, hqw⟩ := places_in hq
      obtain ⟨k2, n2, w2, c2, l2, hqe, hck2, hln2, hsw2⟩ := placeB_at hqB
      rw [hqw] at hsw2
      have hlc2 := htx3 c2 (mem_of_get hck2)
      have hll2 := hlc2.2.2 l2 (mem_of_get hln2)
      have hkk2 := (List.getElem?_eq_some_iff.1 hck2).1
      have hnn2 := (List.getElem?_eq_some_iff.1 hln2).1
      have hww2 := (List.getElem?_eq_some_iff.1 hsw2).1
      subst hqe
      refine aw_skip ?_
      refine K27 _ ?_
      refine yS fun _ K28 => ?_
      refine aw_block ?_
      refine yS fun _ K29 => ?_
      refine yR ?_
      refine yM rfl rfl ?_
      refine aops_n rfl (n_indexAddr rfl rfl rfl rfl (map_get (by assumption)) (Enc.len _)) ?_
      refine yE rfl rfl rfl ?_
      try dsimp only [St.put]
      refine aops_e rfl (e_allocC rfl ?_)
      refine yA rfl rfl ?_
      try dsimp only [St.put]
      refine aops_e rfl (e_store_all rfl rfl rfl zG rfl rfl (by rfl) ?_)
      refine yN ?_
      dsimp only [St.put]
      refine K29 _ ?_
      refine aw_commitD (i := 21) rfl zG (by first | exact List.cons_ne_nil _ _ | (simp; done) | (simp [putAt]; done)) ?_
      dsimp only
      refine yS fun _ K30 => ?_
      refine aw_wipe 133 ?_
      simp only [firsts, getA, Nat.reduceAdd, List.getD_cons_zero, List.getD_cons_succ, List.getD_nil, natBeq, Nat.reduceBEq, cond_true, cond_false]
      refine aw_cutD (X := Unit) (fun _ => True) (fun _ => [(173, .v (.bool false))]) (fun _ G' => G') rfl ?_ (fun _ _ _ _ h => .inl h) ?_ ?_
      ·rintro _ hI
       exact zL
      ·refine aw_drawT [(0, none), (1, none)] (fun _ => false) (fun i => [].contains i) 35 [true, true, false, false, false, false, false, false, false, false, false, false, false, false, false, false, false, false, false, false, false, false, false, false, false, false, false, false, false, false, false, false, false, false, false, false, false] (by kernel_rfl) (by kernel_rfl) ?_
       try dsimp only [St.put]
       refine acan1_s rfl rfl rfl rfl (s_load_agg' rfl rfl rfl) ?_
       try dsimp only [St.put]
       refine acan1_s rfl rfl rfl rfl (s_load_agg' rfl rfl (Enc.len _)) ?_
       refine acan1_nil ?_
       refine aany_step [2] (by kernel_rfl) (by simp) ?_
       refine aeach_cons ?_ ?_
       ·try dsimp only [St.put]
        refine aone_e rfl rfl rfl (e_call_pure rfl rfl rfl (lPlace t ht hqB) ?_)
        refine aany_quiet [(3, none), (4, none), (5, none), (6, none), (7, none), (8, none), (9, none), (10, none), (11, none), (12, none), (13, none), (14, none), (15, none), (16, none), (17, none), (18, none), (19, none), (20, none), (21, none), (22, none), (23, none), (24, none), (25, none), (26, none), (27, none), (28, none), (29, none), (30, none), (31, none), (32, none)] (fun i => [3, 4, 5, 7, 9, 10, 12, 14, 16, 18, 20, 21, 22, 23, 24, 25, 26, 27, 28, 29, 30].contains i) 4 [true, true, true, true, true, true, true, true, true, true, true, true, true, true, true, true, true, true, true, true, true, true, true, true, true, true, true, true, true, true, true, true, true, false, false, false, false] (by kernel_rfl) ?_
        refine acan1_n rfl rfl rfl rfl (n_not rfl rfl) ?_
        refine xM rfl rfl rfl rfl rfl ?_
        refine acan1_n rfl rfl rfl rfl (n_fieldAddr' rfl rfl rfl) ?_
        try dsimp only [St.put]
        refine acan1_s rfl rfl rfl rfl (s_load rfl rfl) ?_
        refine acan1_n rfl rfl rfl rfl (n_fieldAddr' rfl rfl rfl) ?_
        try dsimp only [St.put]
        refine acan1_s rfl rfl rfl rfl (s_load rfl rfl) ?_
        try dsimp only [St.put]
        refine acan1_n rfl rfl rfl rfl (n_indexAddr rfl rfl rfl rfl (map_get (by assumption)) (Enc.len _)) ?_
        refine acan1_n rfl rfl rfl rfl (n_fieldAddr' rfl rfl rfl) ?_
        try dsimp only [St.put]
        refine acan1_s rfl rfl rfl rfl (s_load rfl rfl) ?_
        refine acan1_n rfl rfl rfl rfl (n_fieldAddr' rfl rfl rfl) ?_
        try dsimp only [St.put]
        refine acan1_s rfl rfl rfl rfl (s_load rfl rfl) ?_
        try dsimp only [St.put]
        refine acan1_n rfl rfl rfl rfl (n_indexAddr rfl rfl rfl rfl (map_get (by assumption)) (Enc.len _)) ?_
        try dsimp only [St.put]
        refine acan1_s rfl rfl rfl rfl (s_load rfl rfl) ?_
        refine acan1_n rfl rfl rfl rfl (n_fieldAddr' rfl rfl rfl) ?_
        try dsimp only [St.put]
        refine acan1_s rfl rfl rfl rfl (s_load rfl rfl) ?_
        try dsimp only [St.put]
        refine acan1_n rfl rfl rfl rfl (n_indexAddr rfl rfl rfl rfl (map_get (by assumption)) (Enc.len _)) ?_
        try dsimp only [St.put]
        refine acan1_s rfl rfl rfl rfl (s_load rfl rfl) ?_
        refine xM rfl rfl rfl rfl rfl ?_
        refine acan1_n rfl rfl rfl rfl (n_bool (c := false) (n_strne (m := w) (n := w) rfl rfl rfl) (not_dec_f rfl)) ?_
        refine acan1_n rfl rfl rfl rfl (n_pf rfl rfl (by constructor)) ?_
        refine xM rfl rfl rfl rfl rfl ?_
        refine xM rfl rfl rfl rfl rfl ?_
        refine acan1_n rfl rfl rfl rfl (n_gtr rfl rfl rfl) ?_
        refine acan1_split (fun hs => ?_) (fun hs => ?_)
        ·have s1 := of_decide_eq_true hs
         obtain ⟨q0, hq0⟩ : ∃ q0, (placesL (allP t) w)[m - 1]? = some q0 := some_of_lt (by omega)
         have hbf := lBefore (places_before (by omega) hq0 hq)
         refine xM rfl rfl rfl rfl rfl ?_
         refine xM rfl rfl rfl rfl rfl ?_
         refine xM rfl rfl rfl rfl rfl ?_
         refine acan1_n rfl rfl rfl rfl (n_sub rfl rfl rfl (by omega)) ?_
         try dsimp only [St.put]
         refine acan1_n rfl rfl rfl rfl (n_indexAddr (k := m - 1) rfl rfl rfl (by omega) (map_get hq0) (Enc.len _)) ?_
         try dsimp only [St.put]
         refine acan1_s rfl rfl rfl rfl (s_load_agg' rfl rfl (Enc.len _)) ?_
         try dsimp only [St.put]
         refine acan1_s rfl rfl rfl rfl (s_load_agg' rfl rfl (Enc.len _)) ?_
         refine acan1_nil ?_
         refine aany_step [33] (by kernel_rfl) (by simp) ?_
         refine aeach_cons ?_ ?_
         ·try dsimp only [St.put]
          refine aone_e rfl rfl rfl (e_call_pure rfl rfl rfl (hbf) ?_)
          refine aany_quiet [(34, none), (35, none), (36, none)] (fun i => [34, 35, 36].contains i) 0 [true, true, true, true, true, true, true, true, true, true, true, true, true, true, true, true, true, true, true, true, true, true, true, true, true, true, true, true, true, true, true, true, true, true, true, true, true] (by kernel_rfl) ?_
          refine acan1_n rfl rfl rfl rfl (n_not rfl rfl) ?_
          refine acan1_n rfl rfl rfl rfl (n_pt rfl rfl (by constructor)) ?_
          refine acan1_n rfl rfl rfl rfl (n_pf rfl rfl (by constructor)) ?_
          refine acan1_nil ?_
          dsimp only [St.put]
          refine aany_nil (by kernel_rfl) ?_
          exact ⟨(), trivial, ⟨⟨rfl, rfl⟩, zF, zB, zN, zX⟩⟩
         exact aeach_nil
        skip
        refine xM rfl rfl rfl rfl rfl ?_
        refine acan1_skip rfl rfl rfl ?_
        refine acan1_skip rfl rfl rfl ?_
        refine acan1_skip rfl rfl rfl ?_
        refine acan1_skip rfl rfl rfl ?_
        refine acan1_skip rfl rfl rfl ?_
        refine acan1_skip rfl rfl rfl ?_
        refine acan1_nil ?_
        refine aany_step [33] (by kernel_rfl) (by simp) ?_
        refine aeach_cons ?_ ?_
        ·refine aone_skip rfl rfl rfl ?_
         refine aany_quiet [(34, none), (35, none), (36, none)] (fun i => [34, 35, 36].contains i) 0 [true, true, true, true, true, true, true, true, true, true, true, true, true, true, true, true, true, true, true, true, true, true, true, true, true, true, true, true, true, true, true, true, true, true, true, true, true] (by kernel_rfl) ?_
         refine acan1_skip rfl rfl rfl ?_
         refine acan1_n rfl rfl rfl rfl (n_pf rfl rfl (by constructor)) ?_
         refine acan1_n rfl rfl rfl rfl (n_pf rfl rfl (by constructor)) ?_
         refine acan1_nil ?_
         dsimp only [St.put]
         refine aany_nil (by kernel_rfl) ?_
         exact ⟨(), trivial, ⟨⟨rfl, rfl⟩, zF, zB, zN, zX⟩⟩
        exact aeach_nil
       exact aeach_nil
      rintro _ hI
      dsimp only at hI ⊢
      refine aw_cond rfl (fun h => by cases h) (fun _ => ?_)
      refine aw_skip ?_
      refine K30 _ ?_
      refine yR ?_
      refine yM rfl rfl ?_
      refine yM rfl rfl ?_
      refine aops_split (fun hs => ?_) (fun hs => ?_)
      ·have s2 := hs
       refine yK rfl ?_
       refine yK rfl ?_
       refine yK rfl ?_
       refine yK rfl ?_
       refine yK rfl ?_
       refine yK rfl ?_
       refine yK rfl ?_
       refine yK rfl ?_
       refine aops_n rfl (n_pt rfl rfl (by constructor)) ?_
       refine yA rfl rfl ?_
       refine yN ?_
       dsimp only [St.put]
       refine K28 _ ?_
       refine yR ?_
       refine aops_n rfl (n_add rfl rfl rfl (by omega)) ?_
       refine yM rfl rfl ?_
       refine yN ?_
       dsimp only [St.put]
       have hstep := thereP_step (p := (⟨kk, nn, ww⟩ : PlaceD)) (w := w) (s := s) (b0 := decide (s ∈ (vocL (wordsT t)).take k)) hq
       rw [hJ.2] at hstep
       first
       | (have e1 : bb = true := s2
          rw [e1, Bool.true_or] at hstep
          exact ⟨(m + 1, true), by (dsimp only; omega), ⟨by (dsimp only; omega), hstep⟩, ⟨⟨rfl, rfl⟩, zF, zB, zN, zX⟩⟩)
       | (have e1 : bb = false := s2
          have e2 : (⟨k2, n2, w2⟩ : PlaceD) = (⟨kk, nn, ww⟩ : PlaceD) := s3
          rw [e1, Bool.false_or, decide_eq_true e2, Bool.true_and] at hstep
          exact ⟨(m + 1, decide (w = s)), by (dsimp only; omega), ⟨by (dsimp only; omega), hstep⟩, ⟨⟨rfl, rfl⟩, zF, zB, zN, zX⟩⟩)
       | (have e1 : bb = false := s2
          have e2 : ¬ (⟨k2, n2, w2⟩ : PlaceD) = (⟨kk, nn, ww⟩ : PlaceD) := s3
          rw [e1, Bool.false_or, decide_eq_false e2, Bool.false_and] at hstep
          exact ⟨(m + 1, false), by (dsimp only; omega), ⟨by (dsimp only; omega), hstep⟩, ⟨⟨rfl, rfl⟩, zF, zB, zN, zX⟩⟩)
      have s2 := hs
      refine yE rfl rfl rfl ?_
      refine yE rfl rfl rfl ?_
      refine aops_n rfl (n_agg_eql (x := (⟨k2, n2, w2⟩ : PlaceD)) (y := (⟨kk, nn, ww⟩ : PlaceD)) rfl rfl rfl) ?_
      refine yM rfl rfl ?_
      refine aops_split (fun hs => ?_) (fun hs => ?_)
      ·have s3 := of_decide_eq_true hs
       refine yM rfl rfl ?_
       refine yM rfl rfl ?_
       refine aops_n rfl (n_streq rfl rfl rfl) ?_
       refine aops_n rfl (n_pt rfl rfl (by constructor)) ?_
       refine aops_n rfl (n_pf rfl rfl (by constructor)) ?_
       refine yA rfl rfl ?_
       refine yN ?_
       dsimp only [St.put]
       refine K28 _ ?_
       refine yR ?_
       refine aops_n rfl (n_add rfl rfl rfl (by omega)) ?_
       refine yM rfl rfl ?_
       refine yN ?_
       dsimp only [St.put]
       have hstep := thereP_step (p := (⟨kk, nn, ww⟩ : PlaceD)) (w := w) (s := s) (b0 := decide (s ∈ (vocL (wordsT t)).take k)) hq
       rw [hJ.2] at hstep
       first
       | (have e1 : bb = true := s2
          rw [e1, Bool.true_or] at hstep
          exact ⟨(m + 1, true), by (dsimp only; omega), ⟨by (dsimp only; omega), hstep⟩, ⟨⟨rfl, rfl⟩, zF, zB, zN, zX⟩⟩)
       | (have e1 : bb = false := s2
          have e2 : (⟨k2, n2, w2⟩ : PlaceD) = (⟨kk, nn, ww⟩ : PlaceD) := s3
          rw [e1, Bool.false_or, decide_eq_true e2, Bool.true_and] at hstep
          exact ⟨(m + 1, decide (w = s)), by (dsimp only; omega), ⟨by (dsimp only; omega), hstep⟩, ⟨⟨rfl, rfl⟩, zF, zB, zN, zX⟩⟩)
       | (have e1 : bb = false := s2
          have e2 : ¬ (⟨k2, n2, w2⟩ : PlaceD) = (⟨kk, nn, ww⟩ : PlaceD) := s3
          rw [e1, Bool.false_or, decide_eq_false e2, Bool.false_and] at hstep
          exact ⟨(m + 1, false), by (dsimp only; omega), ⟨by (dsimp only; omega), hstep⟩, ⟨⟨rfl, rfl⟩, zF, zB, zN, zX⟩⟩)
      have s3 := of_decide_eq_false hs
      refine yK rfl ?_
      refine yK rfl ?_
      refine yK rfl ?_
      refine aops_n rfl (n_pf rfl rfl (by constructor)) ?_
      refine aops_n rfl (n_pf rfl rfl (by constructor)) ?_
      refine yA rfl rfl ?_
      refine yN ?_
      dsimp only [St.put]
      refine K28 _ ?_
      refine yR ?_
      refine aops_n rfl (n_add rfl rfl rfl (by omega)) ?_
      refine yM rfl rfl ?_
      refine yN ?_
      dsimp only [St.put]
      have hstep := thereP_step (p := (⟨kk, nn, ww⟩ : PlaceD)) (w := w) (s := s) (b0 := decide (s ∈ (vocL (wordsT t)).take k)) hq
      rw [hJ.2] at hstep
      first
      | (have e1 : bb = true := s2
         rw [e1, Bool.true_or] at hstep
         exact ⟨(m + 1, true), by (dsimp only; omega), ⟨by (dsimp only; omega), hstep⟩, ⟨⟨rfl, rfl⟩, zF, zB, zN, zX⟩⟩)
      | (have e1 : bb = false := s2
         have e2 : (⟨k2, n2, w2⟩ : PlaceD) = (⟨kk, nn, ww⟩ : PlaceD) := s3
         rw [e1, Bool.false_or, decide_eq_true e2, Bool.true_and] at hstep
         exact ⟨(m + 1, decide (w = s)), by (dsimp only; omega), ⟨by (dsimp only; omega), hstep⟩, ⟨⟨rfl, rfl⟩, zF, zB, zN, zX⟩⟩)
      | (have e1 : bb = false := s2
         have e2 : ¬ (⟨k2, n2, w2⟩ : PlaceD) = (⟨kk, nn, ww⟩ : PlaceD) := s3
         rw [e1, Bool.false_or, decide_eq_false e2, Bool.false_and] at hstep
         exact ⟨(m + 1, false), by (dsimp only; omega), ⟨by (dsimp only; omega), hstep⟩, ⟨⟨rfl, rfl⟩, zF, zB, zN, zX⟩⟩)
     replace hc := of_decide_eq_false hc
     have hfin : (decide (s ∈ (vocL (wordsT t)).take k) || decide ((⟨kk, nn, ww⟩ : PlaceD) ∈ placesL (allP t) w ∧ w = s)) = bb := by
      have := hJ.2
      rwa [take_all (show (placesL (allP t) w).length ≤ m by omega)] at this
     have hsl := sumP_le (l := allP t) (V := vocL (wordsT t)) (k + 1)
     rw [sumP_step hw, hsum] at hsl
     refine aw_exit ?_
     refine K24 _ ?_
     refine yR ?_
     refine yM rfl rfl ?_
     refine yM rfl rfl ?_
     refine aops_n rfl (n_len' rfl rfl (List.length_map _)) ?_
     refine aops_n rfl (n_add rfl rfl rfl (by omega)) ?_
     refine yA rfl rfl ?_
     refine yN ?_
     dsimp only [St.put]
     refine K19 _ ?_
     refine yR ?_
     refine aops_n rfl (n_add rfl rfl rfl (by omega)) ?_
     refine yM rfl rfl ?_
     refine yN ?_
     dsimp only [St.put]
     have e1 := sumP_step (l := allP t) hw
     have e2 := thereV_step (w := w) hw hpm
     rw [show (sumP (allP t) ((vocL (wordsT t)).take k) : Int) + ((placesL (allP t) w).length : Int) = (sumP (allP t) ((vocL (wordsT t)).take (k + 1)) : Int) by omega, ← hfin, ← e2]
     exact ⟨k + 1, by omega, by omega, ⟨⟨rfl, rfl⟩, zF, zB, zN, zX⟩⟩
    replace hc := of_decide_eq_false hc
    refine aw_exit ?_
    refine K15 _ ?_
    refine yS fun _ K32 => ?_
    rw [take_all (show (vocL (wordsT t)).length ≤ k by omega), hsum, decide_eq_true (show s ∈ vocL (wordsT t) from vocL_mem.2 (List.mem_map.2 ⟨_, List.mem_of_getElem? hx, rfl⟩))]
    refine yR ?_
    refine yM rfl rfl ?_
    refine yM rfl rfl ?_
    refine yM rfl rfl ?_
    refine aops_n rfl (n_pt rfl rfl (by constructor)) ?_
    refine yM rfl rfl ?_
    refine yM rfl rfl ?_
    refine yM rfl rfl ?_
    refine aops_n rfl (n_bool (c := true) (n_eql rfl rfl rfl) (decide_eq_true rfl)) ?_
    refine aops_n rfl (n_pt rfl rfl (by constructor)) ?_
    refine yA rfl rfl ?_
    refine yN ?_
    dsimp only [St.put]
    skip
    refine K32 _ ?_
    refine aw_ret ?_
    refine ends_1 rfl (by constructor) zN zS ?_
    rfl
   exact aeach_nil
  exact aeach_nil
 refine aeach_cons ?_ ?_
 ·try dsimp only [St.put]
  refine aone_e rfl rfl rfl (e_allocC rfl ?_)
  refine aany_step [5] (by kernel_rfl) (by simp) ?_
  refine aeach_cons ?_ ?_
  ·try dsimp only [St.put]
   refine aone_e rfl rfl rfl (e_call_pure rfl rfl rfl (lPlaceOf t ht hx) ?_)
   refine aany_quiet [(6, none), (7, none), (8, none)] (fun i => [6, 7, 8].contains i) 2 [true, true, true, true, true, true, true, true, true, true, false, false] (by kernel_rfl) ?_
   refine xM rfl rfl rfl rfl rfl ?_
   refine acan1_n rfl rfl rfl rfl (n_extract rfl rfl rfl) ?_
   refine acan1_n rfl rfl rfl rfl (n_extract rfl rfl rfl) ?_
   refine acan1_nil ?_
   refine aany_step [10] (by kernel_rfl) (by simp) ?_
   refine aeach_cons ?_ ?_
   ·try dsimp only [St.put]
    refine aone_e rfl rfl rfl (e_store_all rfl rfl rfl zG rfl rfl (by rfl) ?_)
    refine aany_quiet [(11, none)] (fun i => [11].contains i) 0 [true, true, true, true, true, true, true, true, true, true, true, true] (by kernel_rfl) ?_
    refine acan1_n rfl rfl rfl rfl (n_as rfl (by constructor)) ?_
    refine acan1_nil ?_
    dsimp only [St.put]
    refine aany_of_tr (tr_commit (i := 8) rfl zG (by first | exact List.cons_ne_nil _ _ | (simp; done) | (simp [putAt]; done))) ?_
    dsimp only
    refine aany_nil (by kernel_rfl) ?_
    refine K9 _ ?_
    refine yS fun _ K33 => ?_
    refine yR ?_
    try dsimp only [St.put]
    refine aops_s rfl (s_load_agg' rfl rfl rfl) ?_
    refine yE rfl rfl rfl ?_
    try dsimp only [St.put]
    refine aops_e rfl (e_call_pure rfl rfl rfl (lAt t ht hx) ?_)
    refine yM rfl rfl ?_
    refine yX rfl rfl rfl rfl ?_
    refine yX rfl rfl rfl rfl ?_
    refine yA rfl rfl ?_
    refine yA rfl rfl ?_
    refine yN ?_
    dsimp only [St.put]
    refine K33 _ ?_
    refine yS fun _ K34 => ?_
    refine yR ?_
    try dsimp only [St.put]
    refine aops_s rfl (s_load_agg' rfl rfl rfl) ?_
    try dsimp only [St.put]
    refine aops_e rfl (e_call_pure rfl rfl rfl (lVocabulary t ht) ?_)
    refine yM rfl rfl ?_
    refine yX rfl rfl rfl rfl ?_
    refine yX rfl rfl rfl rfl ?_
    refine yA rfl rfl ?_
    refine yA rfl rfl ?_
    refine yN ?_
    dsimp only [St.put]
    subst hpe
    refine K34 _ ?_
    refine yS fun _ K35 => ?_
    refine aw_wipe 14 ?_
    simp only [firsts, getA, Nat.reduceAdd, List.getD_cons_zero, List.getD_cons_succ, List.getD_nil, natBeq, Nat.reduceBEq, cond_true, cond_false]
    refine aw_cutD (X := Unit) (fun _ => True) (fun _ => [(96, .v (.bool false))]) (fun _ G' => G') rfl ?_ (fun _ _ _ _ h => .inl h) ?_ ?_
    ·rintro _ hI
     exact zL
    ·refine aw_drawT [(0, none), (1, none), (2, none), (3, none), (4, none), (5, none), (6, none), (7, none), (8, none), (9, none), (10, none), (11, none), (12, none)] (fun _ => false) (fun i => [0, 1, 2, 3, 4, 5, 6, 7, 8, 9, 10].contains i) 22 [true, true, true, true, true, true, true, true, true, true, true, true, true, false, false, false, false, false, false, false, false, false, false, false, false, false, false, false, false, false, false, false, false, false, false] (by kernel_rfl) (by kernel_rfl) ?_
     refine xM rfl rfl rfl rfl rfl ?_
     refine acan1_n rfl rfl rfl rfl (n_bool (c := false) (n_neq rfl rfl rfl) (not_dec_f rfl)) ?_
     refine xM rfl rfl rfl rfl rfl ?_
     refine xM rfl rfl rfl rfl rfl ?_
     refine acan1_n rfl rfl rfl rfl (n_bool (c := false) (n_neq rfl rfl rfl) (not_dec_f rfl)) ?_
     refine acan1_n rfl rfl rfl rfl (n_pf rfl rfl (by constructor)) ?_
     refine xM rfl rfl rfl rfl rfl ?_
     refine xM rfl rfl rfl rfl rfl ?_
     refine acan1_n rfl rfl rfl rfl (n_bool (c := false) (n_neq rfl rfl rfl) (not_dec_f rfl)) ?_
     refine acan1_n rfl rfl rfl rfl (n_pf rfl rfl (by constructor)) ?_
     refine xM rfl rfl rfl rfl rfl ?_
     try dsimp only [St.put]
     refine acan1_s rfl rfl rfl rfl (s_load_agg' rfl rfl rfl) ?_
     try dsimp only [St.put]
     refine acan1_s rfl rfl rfl rfl (s_load_agg' rfl rfl (Enc.len _)) ?_
     refine acan1_nil ?_
     refine aany_step [13] (by kernel_rfl) (by simp) ?_
     refine aeach_cons ?_ ?_
     ·try dsimp only [St.put]
      refine aone_e rfl rfl rfl (e_call_pure rfl rfl rfl (lPlace t ht (at_place hx)) ?_)
      refine aany_quiet [(14, none), (15, none), (16, none), (17, none), (18, none), (19, none), (20, none), (21, none), (22, none), (23, none), (24, none), (25, none), (26, none), (27, none), (28, none), (29, none), (30, none), (31, none), (32, none), (33, none), (34, none)] (fun i => [14, 15, 16, 17, 19, 21, 22, 24, 26, 28, 30, 32, 33, 34].contains i) 0 [true, true, true, true, true, true, true, true, true, true, true, true, true, true, true, true, true, true, true, true, true, true, true, true, true, true, true, true, true, true, true, true, true, true, true] (by kernel_rfl) ?_
      refine acan1_n rfl rfl rfl rfl (n_not rfl rfl) ?_
      refine acan1_n rfl rfl rfl rfl (n_pf rfl rfl (by constructor)) ?_
      refine xM rfl rfl rfl rfl rfl ?_
      refine acan1_n rfl rfl rfl rfl (n_fieldAddr' rfl rfl rfl) ?_
      try dsimp only [St.put]
      refine acan1_s rfl rfl rfl rfl (s_load rfl rfl) ?_
      refine acan1_n rfl rfl rfl rfl (n_fieldAddr' rfl rfl rfl) ?_
      try dsimp only [St.put]
      refine acan1_s rfl rfl rfl rfl (s_load rfl rfl) ?_
      try dsimp only [St.put]
      refine acan1_n rfl rfl rfl rfl (n_indexAddr rfl rfl rfl rfl (map_get (by assumption)) (Enc.len _)) ?_
      refine acan1_n rfl rfl rfl rfl (n_fieldAddr' rfl rfl rfl) ?_
      try dsimp only [St.put]
      refine acan1_s rfl rfl rfl rfl (s_load rfl rfl) ?_
      refine acan1_n rfl rfl rfl rfl (n_fieldAddr' rfl rfl rfl) ?_
      try dsimp only [St.put]
      refine acan1_s rfl rfl rfl rfl (s_load rfl rfl) ?_
      try dsimp only [St.put]
      refine acan1_n rfl rfl rfl rfl (n_indexAddr rfl rfl rfl rfl (map_get (by assumption)) (Enc.len _)) ?_
      try dsimp only [St.put]
      refine acan1_s rfl rfl rfl rfl (s_load rfl rfl) ?_
      refine acan1_n rfl rfl rfl rfl (n_fieldAddr' rfl rfl rfl) ?_
      try dsimp only [St.put]
      refine acan1_s rfl rfl rfl rfl (s_load rfl rfl) ?_
      try dsimp only [St.put]
      refine acan1_n rfl rfl rfl rfl (n_indexAddr rfl rfl rfl rfl (map_get (by assumption)) (Enc.len _)) ?_
      try dsimp only [St.put]
      refine acan1_s rfl rfl rfl rfl (s_load rfl rfl) ?_
      refine xM rfl rfl rfl rfl rfl ?_
      refine acan1_n rfl rfl rfl rfl (n_bool (c := false) (n_strne (m := s) (n := s) rfl rfl rfl) (not_dec_f rfl)) ?_
      refine acan1_n rfl rfl rfl rfl (n_pf rfl rfl (by constructor)) ?_
      refine acan1_nil ?_
      dsimp only [St.put]
      refine aany_nil (by kernel_rfl) ?_
      exact ⟨(), trivial, ⟨⟨rfl, rfl⟩, zF, zB, zN, zX⟩⟩
     exact aeach_nil
    rintro _ hI
    dsimp only at hI ⊢
    refine aw_cond rfl (fun h => by cases h) (fun _ => ?_)
    refine aw_skip ?_
    refine K35 _ ?_
    refine yS fun _ K37 => ?_
    refine yR ?_
    refine yA rfl rfl ?_
    refine yA rfl rfl ?_
    refine yN ?_
    dsimp only [St.put]
    refine K37 _ ?_
    refine yS fun _ K38 => ?_
    refine aw_wipe 100 ?_
    simp only [firsts, getA, Nat.reduceAdd, List.getD_cons_zero, List.getD_cons_succ, List.getD_nil, natBeq, Nat.reduceBEq, cond_true, cond_false]
    refine aw_cutD (X := Unit) (fun _ => True) (fun _ => [(2, .elem [lst t]), (5, .v (.bool true)), (6, .v (.int .i64 ((allP t).length : Int))), (8, .elem (cells (⟨kk, nn, ww⟩ : PlaceD))), (10, .v (.string s)), (12, lst (vocL (wordsT t))), (14, .v (.int .i64 0)), (15, .v (.bool false)), (97, lst (vocL (wordsT t))), (98, .v (.int .i64 ((vocL (wordsT t)).length : Int))), (99, .v (.int .i64 0))]) (fun _ G' => G') rfl ?_ (fun _ _ _ _ h => .inl h) ?_ ?_
    ·rintro _ hI
     exact zL
    ·refine yR ?_
     refine yM rfl rfl ?_
     refine aops_n rfl (n_len' rfl rfl (List.length_map _)) ?_
     refine yM rfl rfl ?_
     refine yN ?_
     dsimp only [St.put]
     exact ⟨(), trivial, ⟨⟨rfl, rfl⟩, zF, zB, zN, zX⟩⟩
    rintro _ hI
    dsimp only at hI ⊢
    refine aw_block ?_
    refine aw_wipe 100 ?_
    simp only [firsts, getA, Nat.reduceAdd, List.getD_cons_zero, List.getD_cons_succ, List.getD_nil, natBeq, Nat.reduceBEq, cond_true, cond_false]
    refine aw_forget (G) zX ?_
    dsimp only
    refine aw_loopD (X := Nat) (fun k => k ≤ (vocL (wordsT t)).length) (fun k => (vocL (wordsT t)).length - k) (fun k => [(14, .v (.int .i64 (sumP (allP t) ((vocL (wordsT t)).take k) : Int))), (15, .v (.bool (decide (s ∈ (vocL (wordsT t)).take k)))), (16, .any), (17, .any), (18, .any), (19, .any), (20, .any), (21, .any), (99, .v (.int .i64 (k : Int)))]) (fun k G' => G') 0 rfl ?_ ?_ (fun _ _ h => h) ?_ ?_ ?_
    ·exact Nat.zero_le _
    ·exact zF
    ·rintro k hI
     exact zL
    ·exact fun _ _ _ _ h => .inl h
    rintro k hI
    dsimp only at hI ⊢
    refine yS fun _ K40 => ?_
    refine yR ?_
    refine aops_n rfl (n_lss rfl rfl rfl) ?_
    refine yN ?_
    dsimp only [St.put]
    refine K40 _ ?_
    refine yS fun _ K41 => ?_
    refine aw_cond rfl (fun hc => ?_) (fun hc => ?_)
    ·replace hc := of_decide_eq_true hc
     obtain ⟨w, hw⟩ : ∃ w, (vocL (wordsT t))[k]? = some w := some_of_lt (by omega)
     obtain ⟨hne, hwB⟩ := hw0 k w hw
     have hpl := placesL_len (allP t) w
     refine aw_skip ?_
     refine K41 _ ?_
     refine yS fun _ K42 => ?_
     refine aw_block ?_
     refine yS fun _ K43 => ?_
     refine yR ?_
     refine yM rfl rfl ?_
     refine aops_n rfl (n_indexAddr rfl rfl rfl rfl (map_get (by assumption)) (Enc.len _)) ?_
     refine yL rfl rfl rfl ?_
     refine yA rfl rfl ?_
     refine yA rfl rfl ?_
     refine yN ?_
     dsimp only [St.put]
     refine K43 _ ?_
     refine yS fun _ K44 => ?_
     refine yR ?_
     try dsimp only [St.put]
     refine aops_s rfl (s_load_agg' rfl rfl rfl) ?_
     refine yM rfl rfl ?_
     try dsimp only [St.put]
     refine aops_e rfl (e_call_pure rfl rfl rfl (lPlaces t ht hwB) ?_)
     refine yM rfl rfl ?_
     refine yX rfl rfl rfl rfl ?_
     refine yX rfl rfl rfl rfl ?_
     refine yA rfl rfl ?_
     refine yA rfl rfl ?_
     refine yN ?_
     dsimp only [St.put]
     refine K44 _ ?_
     refine yS fun _ K45 => ?_
     refine aw_wipe 100 ?_
     simp only [firsts, getA, Nat.reduceAdd, List.getD_cons_zero, List.getD_cons_succ, List.getD_nil, natBeq, Nat.reduceBEq, cond_true, cond_false]
     refine aw_cutD (X := Unit) (fun _ => True) (fun _ => [(129, .v (.bool false))]) (fun _ G' => G') rfl ?_ (fun _ _ _ _ h => .inl h) ?_ ?_
     ·rintro _ hI
      exact zL
     ·refine yR ?_
      refine yM rfl rfl ?_
      refine aops_n rfl (n_bool (c := false) (n_neq rfl rfl rfl) (not_dec_f rfl)) ?_
      refine yM rfl rfl ?_
      refine yM rfl rfl ?_
      refine aops_n rfl (n_len' rfl rfl (List.length_map _)) ?_
      refine aops_n rfl (n_bool (c := false) (n_eql rfl rfl rfl) (decide_eq_false (fun e => hne (List.eq_nil_of_length_eq_zero (by omega))))) ?_
      refine aops_n rfl (n_pf rfl rfl (by constructor)) ?_
      refine yM rfl rfl ?_
      refine yM rfl rfl ?_
      refine aops_n rfl (n_gtr rfl rfl rfl) ?_
      refine aops_split (fun hs => ?_) (fun hs => ?_)
      ·have s1 := of_decide_eq_true hs
       obtain ⟨v, hv⟩ : ∃ v, (vocL (wordsT t))[k - 1]? = some v := some_of_lt (by omega)
       have hvw := voc_less (by omega) hv hw
       refine yM rfl rfl ?_
       refine yM rfl rfl ?_
       refine yM rfl rfl ?_
       refine aops_n rfl (n_sub rfl rfl rfl (by omega)) ?_
       try dsimp only [St.put]
       refine aops_n rfl (n_indexAddr (k := k - 1) rfl rfl rfl (by omega) (map_get hv) (Enc.len _)) ?_
       refine yL rfl rfl rfl ?_
       refine yM rfl rfl ?_
       refine aops_n rfl (n_bool (c := false) (n_strge rfl rfl rfl) (by rw [hvw]; rfl)) ?_
       refine aops_n rfl (n_pt rfl rfl (by constructor)) ?_
       refine aops_n rfl (n_pf rfl rfl (by constructor)) ?_
       refine yN ?_
       dsimp only [St.put]
       exact ⟨(), trivial, ⟨⟨rfl, rfl⟩, zF, zB, zN, zX⟩⟩
      skip
      refine yM rfl rfl ?_
      refine yK rfl ?_
      refine yK rfl ?_
      refine yK rfl ?_
      refine yK rfl ?_
      refine yK rfl ?_
      refine yK rfl ?_
      refine yK rfl ?_
      refine aops_n rfl (n_pf rfl rfl (by constructor)) ?_
      refine aops_n rfl (n_pf rfl rfl (by constructor)) ?_
      refine yN ?_
      dsimp only [St.put]
      exact ⟨(), trivial, ⟨⟨rfl, rfl⟩, zF, zB, zN, zX⟩⟩
     rintro _ hI
     dsimp only at hI ⊢
     refine aw_cond rfl (fun h => by cases h) (fun _ => ?_)
     refine aw_skip ?_
     refine K45 _ ?_
     refine yS fun _ K47 => ?_
     refine yS fun _ K48 => ?_
     refine yR ?_
     refine yM rfl rfl ?_
     refine aops_n rfl (n_len' rfl rfl (List.length_map _)) ?_
     refine yM rfl rfl ?_
     refine yN ?_
     dsimp only [St.put]
     refine K48 _ ?_
     refine aw_block ?_
     refine aw_wipe 133 ?_
     simp only [firsts, getA, Nat.reduceAdd, List.getD_cons_zero, List.getD_cons_succ, List.getD_nil, natBeq, Nat.reduceBEq, cond_true, cond_false]
     refine aw_forget (G) zX ?_
     dsimp only
     refine aw_loopD (X := Nat × Bool) (fun y => y.1 ≤ (placesL (allP t) w).length ∧ (decide (s ∈ (vocL (wordsT t)).take k) || decide ((⟨kk, nn, ww⟩ : PlaceD) ∈ (placesL (allP t) w).take y.1 ∧ w = s)) = y.2) (fun y => (placesL (allP t) w).length - y.1) (fun y => [(15, .v (.bool y.2)), (20, .any), (21, .any), (132, .v (.int .i64 (y.1 : Int)))]) (fun y G' => G') (0, decide (s ∈ (vocL (wordsT t)).take k)) rfl ?_ ?_ (fun _ _ h => h) ?_ ?_ ?_
     ·exact ⟨Nat.zero_le _, by simp⟩
     ·exact zF
     ·rintro ⟨m, bb⟩ hI
      exact zL
     ·exact fun _ _ _ _ h => .inl h
     rintro ⟨m, bb⟩ hJ
     dsimp only at hJ ⊢
     refine yS fun _ K49 => ?_
     refine yR ?_
     refine aops_n rfl (n_lss rfl rfl rfl) ?_
     refine yN ?_
     dsimp only [St.put]
     refine K49 _ ?_
     refine yS fun _ K50 => ?_
     refine aw_cond rfl (fun hc => ?_) (fun hc => ?_)
     ·replace hc := of_decide_eq_true hc
      obtain ⟨q, hq⟩ : ∃ q, (placesL (allP t) w)[m]? = some q := some_of_lt (by omega)
      obtain ⟨hqB, hqw⟩ := places_in hq
      obtain ⟨k2, n2, w2, c2, l2, hqe, hck2, hln2, hsw2⟩ := placeB_at hqB
      rw [hqw] at hsw2
      have hlc2 := htx3 c2 (mem_of_get hck2)
      have hll2 := hlc2.2.2 l2 (mem_of_get hln2)
      have hkk2 := (List.getElem?_eq_some_iff.1 hck2).1
      have hnn2 := (List.getElem?_eq_some_iff.1 hln2).1
      have hww2 := (List.getElem?_eq_some_iff.1 hsw2).1
      subst hqe
      refine aw_skip ?_
      refine K50 _ ?_
      refine yS fun _ K51 => ?_
      refine aw_block ?_
      refine yS fun _ K52 => ?_
      refine yR ?_
      refine yM rfl rfl ?_
      refine aops_n rfl (n_indexAddr rfl rfl rfl rfl (map_get (by assumption)) (Enc.len _)) ?_
      refine yE rfl rfl rfl ?_
      try dsimp only [St.put]
      refine aops_e rfl (e_allocC rfl ?_)
      refine yA rfl rfl ?_
      try dsimp only [St.put]
      refine aops_e rfl (e_store_all rfl rfl rfl zG rfl rfl (by rfl) ?_)
      refine yN ?_
      dsimp only [St.put]
      refine K52 _ ?_
      refine aw_commitD (i := 21) rfl zG (by first | exact List.cons_ne_nil _ _ | (simp; done) | (simp [putAt]; done)) ?_
      dsimp only
      refine yS fun _ K53 => ?_
      refine aw_wipe 133 ?_
      simp only [firsts, getA, Nat.reduceAdd, List.getD_cons_zero, List.getD_cons_succ, List.getD_nil, natBeq, Nat.reduceBEq, cond_true, cond_false]
      refine aw_cutD (X := Unit) (fun _ => True) (fun _ => [(173, .v (.bool false))]) (fun _ G' => G') rfl ?_ (fun _ _ _ _ h => .inl h) ?_ ?_
      ·rintro _ hI
       exact zL
      ·refine aw_drawT [(0, none), (1, none)] (fun _ => false) (fun i => [].contains i) 35 [true, true, false, false, false, false, false, false, false, false, false, false, false, false, false, false, false, false, false, false, false, false, false, false, false, false, false, false, false, false, false, false, false, false, false, false, false] (by kernel_rfl) (by kernel_rfl) ?_
       try dsimp only [St.put]
       refine acan1_s rfl rfl rfl rfl (s_load_agg' rfl rfl rfl) ?_
       try dsimp only [St.put]
       refine acan1_s rfl rfl rfl rfl (s_load_agg' rfl rfl (Enc.len _)) ?_
       refine acan1_nil ?_
       refine aany_step [2] (by kernel_rfl) (by simp) ?_
       refine aeach_cons ?_ ?_
       ·try dsimp only [St.put]
        refine aone_e rfl rfl rfl (e_call_pure rfl rfl rfl (lPlace t ht hqB) ?_)
        refine aany_quiet [(3, none), (4, none), (5, none), (6, none), (7, none), (8, none), (9, none), (10, none), (11, none), (12, none), (13, none), (14, none), (15, none), (16, none), (17, none), (18, none), (19, none), (20, none), (21, none), (22, none), (23, none), (24, none), (25, none), (26, none), (27, none), (28, none), (29, none), (30, none), (31, none), (32, none)] (fun i => [3, 4, 5, 7, 9, 10, 12, 14, 16, 18, 20, 21, 22, 23, 24, 25, 26, 27, 28, 29, 30].contains i) 4 [true, true, true, true, true, true, true, true, true, true, true, true, true, true, true, true, true, true, true, true, true, true, true, true, true, true, true, true, true, true, true, true, true, false, false, false, false] (by kernel_rfl) ?_
        refine acan1_n rfl rfl rfl rfl (n_not rfl rfl) ?_
        refine xM rfl rfl rfl rfl rfl ?_
        refine acan1_n rfl rfl rfl rfl (n_fieldAddr' rfl rfl rfl) ?_
        try dsimp only [St.put]
        refine acan1_s rfl rfl rfl rfl (s_load rfl rfl) ?_
        refine acan1_n rfl rfl rfl rfl (n_fieldAddr' rfl rfl rfl) ?_
        try dsimp only [St.put]
        refine acan1_s rfl rfl rfl rfl (s_load rfl rfl) ?_
        try dsimp only [St.put]
        refine acan1_n rfl rfl rfl rfl (n_indexAddr rfl rfl rfl rfl (map_get (by assumption)) (Enc.len _)) ?_
        refine acan1_n rfl rfl rfl rfl (n_fieldAddr' rfl rfl rfl) ?_
        try dsimp only [St.put]
        refine acan1_s rfl rfl rfl rfl (s_load rfl rfl) ?_
        refine acan1_n rfl rfl rfl rfl (n_fieldAddr' rfl rfl rfl) ?_
        try dsimp only [St.put]
        refine acan1_s rfl rfl rfl rfl (s_load rfl rfl) ?_
        try dsimp only [St.put]
        refine acan1_n rfl rfl rfl rfl (n_indexAddr rfl rfl rfl rfl (map_get (by assumption)) (Enc.len _)) ?_
        try dsimp only [St.put]
        refine acan1_s rfl rfl rfl rfl (s_load rfl rfl) ?_
        refine acan1_n rfl rfl rfl rfl (n_fieldAddr' rfl rfl rfl) ?_
        try dsimp only [St.put]
        refine acan1_s rfl rfl rfl rfl (s_load rfl rfl) ?_
        try dsimp only [St.put]
        refine acan1_n rfl rfl rfl rfl (n_indexAddr rfl rfl rfl rfl (map_get (by assumption)) (Enc.len _)) ?_
        try dsimp only [St.put]
        refine acan1_s rfl rfl rfl rfl (s_load rfl rfl) ?_
        refine xM rfl rfl rfl rfl rfl ?_
        refine acan1_n rfl rfl rfl rfl (n_bool (c := false) (n_strne (m := w) (n := w) rfl rfl rfl) (not_dec_f rfl)) ?_
        refine acan1_n rfl rfl rfl rfl (n_pf rfl rfl (by constructor)) ?_
        refine xM rfl rfl rfl rfl rfl ?_
        refine xM rfl rfl rfl rfl rfl ?_
        refine acan1_n rfl rfl rfl rfl (n_gtr rfl rfl rfl) ?_
        refine acan1_split (fun hs => ?_) (fun hs => ?_)
        ·have s1 := of_decide_eq_true hs
         obtain ⟨q0, hq0⟩ : ∃ q0, (placesL (allP t) w)[m - 1]? = some q0 := some_of_lt (by omega)
         have hbf := lBefore (places_before (by omega) hq0 hq)
         refine xM rfl rfl rfl rfl rfl ?_
         refine xM rfl rfl rfl rfl rfl ?_
         refine xM rfl rfl rfl rfl rfl ?_
         refine acan1_n rfl rfl rfl rfl (n_sub rfl rfl rfl (by omega)) ?_
         try dsimp only [St.put]
         refine acan1_n rfl rfl rfl rfl (n_indexAddr (k := m - 1) rfl rfl rfl (by omega) (map_get hq0) (Enc.len _)) ?_
         try dsimp only [St.put]
         refine acan1_s rfl rfl rfl rfl (s_load_agg' rfl rfl (Enc.len _)) ?_
         try dsimp only [St.put]
         refine acan1_s rfl rfl rfl rfl (s_load_agg' rfl rfl (Enc.len _)) ?_
         refine acan1_nil ?_
         refine aany_step [33] (by kernel_rfl) (by simp) ?_
         refine aeach_cons ?_ ?_
         ·try dsimp only [St.put]
          refine aone_e rfl rfl rfl (e_call_pure rfl rfl rfl (hbf) ?_)
          refine aany_quiet [(34, none), (35, none), (36, none)] (fun i => [34, 35, 36].contains i) 0 [true, true, true, true, true, true, true, true, true, true, true, true, true, true, true, true, true, true, true, true, true, true, true, true, true, true, true, true, true, true, true, true, true, true, true, true, true] (by kernel_rfl) ?_
          refine acan1_n rfl rfl rfl rfl (n_not rfl rfl) ?_
          refine acan1_n rfl rfl rfl rfl (n_pt rfl rfl (by constructor)) ?_
          refine acan1_n rfl rfl rfl rfl (n_pf rfl rfl (by constructor)) ?_
          refine acan1_nil ?_
          dsimp only [St.put]
          refine aany_nil (by kernel_rfl) ?_
          exact ⟨(), trivial, ⟨⟨rfl, rfl⟩, zF, zB, zN, zX⟩⟩
         exact aeach_nil
        skip
        refine xM rfl rfl rfl rfl rfl ?_
        refine acan1_skip rfl rfl rfl ?_
        refine acan1_skip rfl rfl rfl ?_
        refine acan1_skip rfl rfl rfl ?_
        refine acan1_skip rfl rfl rfl ?_
        refine acan1_skip rfl rfl rfl ?_
        refine acan1_skip rfl rfl rfl ?_
        refine acan1_nil ?_
        refine aany_step [33] (by kernel_rfl) (by simp) ?_
        refine aeach_cons ?_ ?_
        ·refine aone_skip rfl rfl rfl ?_
         refine aany_quiet [(34, none), (35, none), (36, none)] (fun i => [34, 35, 36].contains i) 0 [true, true, true, true, true, true, true, true, true, true, true, true, true, true, true, true, true, true, true, true, true, true, true, true, true, true, true, true, true, true, true, true, true, true, true, true, true] (by kernel_rfl) ?_
         refine acan1_skip rfl rfl rfl ?_
         refine acan1_n rfl rfl rfl rfl (n_pf rfl rfl (by constructor)) ?_
         refine acan1_n rfl rfl rfl rfl (n_pf rfl rfl (by constructor)) ?_
         refine acan1_nil ?_
         dsimp only [St.put]
         refine aany_nil (by kernel_rfl) ?_
         exact ⟨(), trivial, ⟨⟨rfl, rfl⟩, zF, zB, zN, zX⟩⟩
        exact aeach_nil
       exact aeach_nil
      rintro _ hI
      dsimp only at hI ⊢
      refine aw_cond rfl (fun h => by cases h) (fun _ => ?_)
      refine aw_skip ?_
      refine K53 _ ?_
      refine yR ?_
      refine yM rfl rfl ?_
      refine yM rfl rfl ?_
      refine aops_split (fun hs => ?_) (fun hs => ?_)
      ·have s2 := hs
       refine yK rfl ?_
       refine yK rfl ?_
       refine yK rfl ?_
       refine yK rfl ?_
       refine yK rfl ?_
       refine yK rfl ?_
       refine yK rfl ?_
       refine yK rfl ?_
       refine aops_n rfl (n_pt rfl rfl (by constructor)) ?_
       refine yA rfl rfl ?_
       refine yN ?_
       dsimp only [St.put]
       refine K51 _ ?_
       refine yR ?_
       refine aops_n rfl (n_add rfl rfl rfl (by omega)) ?_
       refine yM rfl rfl ?_
       refine yN ?_
       dsimp only [St.put]
       have hstep := thereP_step (p := (⟨kk, nn, ww⟩ : PlaceD)) (w := w) (s := s) (b0 := decide (s ∈ (vocL (wordsT t)).take k)) hq
       rw [hJ.2] at hstep
       first
       | (have e1 : bb = true := s2
          rw [e1, Bool.true_or] at hstep
          exact ⟨(m + 1, true), by (dsimp only; omega), ⟨by (dsimp only; omega), hstep⟩, ⟨⟨rfl, rfl⟩, zF, zB, zN, zX⟩⟩)
       | (have e1 : bb = false := s2
          have e2 : (⟨k2, n2, w2⟩ : PlaceD) = (⟨kk, nn, ww⟩ : PlaceD) := s3
          rw [e1, Bool.false_or, decide_eq_true e2, Bool.true_and] at hstep
          exact ⟨(m + 1, decide (w = s)), by (dsimp only; omega), ⟨by (dsimp only; omega), hstep⟩, ⟨⟨rfl, rfl⟩, zF, zB, zN, zX⟩⟩)
       | (have e1 : bb = false := s2
          have e2 : ¬ (⟨k2, n2, w2⟩ : PlaceD) = (⟨kk, nn, ww⟩ : PlaceD) := s3
          rw [e1, Bool.false_or, decide_eq_false e2, Bool.false_and] at hstep
          exact ⟨(m + 1, false), by (dsimp only; omega), ⟨by (dsimp only; omega), hstep⟩, ⟨⟨rfl, rfl⟩, zF, zB, zN, zX⟩⟩)
      have s2 := hs
      refine yE rfl rfl rfl ?_
      refine yE rfl rfl rfl ?_
      refine aops_n rfl (n_agg_eql (x := (⟨k2, n2, w2⟩ : PlaceD)) (y := (⟨kk, nn, ww⟩ : PlaceD)) rfl rfl rfl) ?_
      refine yM rfl rfl ?_
      refine aops_split (fun hs => ?_) (fun hs => ?_)
      ·have s3 := of_decide_eq_true hs
       refine yM rfl rfl ?_
       refine yM rfl rfl ?_
       refine aops_n rfl (n_streq rfl rfl rfl) ?_
       refine aops_n rfl (n_pt rfl rfl (by constructor)) ?_
       refine aops_n rfl (n_pf rfl rfl (by constructor)) ?_
       refine yA rfl rfl ?_
       refine yN ?_
       dsimp only [St.put]
       refine K51 _ ?_
       refine yR ?_
       refine aops_n rfl (n_add rfl rfl rfl (by omega)) ?_
       refine yM rfl rfl ?_
       refine yN ?_
       dsimp only [St.put]
       have hstep := thereP_step (p := (⟨kk, nn, ww⟩ : PlaceD)) (w := w) (s := s) (b0 := decide (s ∈ (vocL (wordsT t)).take k)) hq
       rw [hJ.2] at hstep
       first
       | (have e1 : bb = true := s2
          rw [e1, Bool.true_or] at hstep
          exact ⟨(m + 1, true), by (dsimp only; omega), ⟨by (dsimp only; omega), hstep⟩, ⟨⟨rfl, rfl⟩, zF, zB, zN, zX⟩⟩)
       | (have e1 : bb = false := s2
          have e2 : (⟨k2, n2, w2⟩ : PlaceD) = (⟨kk, nn, ww⟩ : PlaceD) := s3
          rw [e1, Bool.false_or, decide_eq_true e2, Bool.true_and] at hstep
          exact ⟨(m + 1, decide (w = s)), by (dsimp only; omega), ⟨by (dsimp only; omega), hstep⟩, ⟨⟨rfl, rfl⟩, zF, zB, zN, zX⟩⟩)
       | (have e1 : bb = false := s2
          have e2 : ¬ (⟨k2, n2, w2⟩ : PlaceD) = (⟨kk, nn, ww⟩ : PlaceD) := s3
          rw [e1, Bool.false_or, decide_eq_false e2, Bool.false_and] at hstep
          exact ⟨(m + 1, false), by (dsimp only; omega), ⟨by (dsimp only; omega), hstep⟩, ⟨⟨rfl, rfl⟩, zF, zB, zN, zX⟩⟩)
      have s3 := of_decide_eq_false hs
      refine yK rfl ?_
      refine yK rfl ?_
      refine yK rfl ?_
      refine aops_n rfl (n_pf rfl rfl (by constructor)) ?_
      refine aops_n rfl (n_pf rfl rfl (by constructor)) ?_
      refine yA rfl rfl ?_
      refine yN ?_
      dsimp only [St.put]
      refine K51 _ ?_
      refine yR ?_
      refine aops_n rfl (n_add rfl rfl rfl (by omega)) ?_
      refine yM rfl rfl ?_
      refine yN ?_
      dsimp only [St.put]
      have hstep := thereP_step (p := (⟨kk, nn, ww⟩ : PlaceD)) (w := w) (s := s) (b0 := decide (s ∈ (vocL (wordsT t)).take k)) hq
      rw [hJ.2] at hstep
      first
      | (have e1 : bb = true := s2
         rw [e1, Bool.true_or] at hstep
         exact ⟨(m + 1, true), by (dsimp only; omega), ⟨by (dsimp only; omega), hstep⟩, ⟨⟨rfl, rfl⟩, zF, zB, zN, zX⟩⟩)
      | (have e1 : bb = false := s2
         have e2 : (⟨k2, n2, w2⟩ : PlaceD) = (⟨kk, nn, ww⟩ : PlaceD) := s3
         rw [e1, Bool.false_or, decide_eq_true e2, Bool.true_and] at hstep
         exact ⟨(m + 1, decide (w = s)), by (dsimp only; omega), ⟨by (dsimp only; omega), hstep⟩, ⟨⟨rfl, rfl⟩, zF, zB, zN, zX⟩⟩)
      | (have e1 : bb = false := s2
         have e2 : ¬ (⟨k2, n2, w2⟩ : PlaceD) = (⟨kk, nn, ww⟩ : PlaceD) := s3
         rw [e1, Bool.false_or, decide_eq_false e2, Bool.false_and] at hstep
         exact ⟨(m + 1, false), by (dsimp only; omega), ⟨by (dsimp only; omega), hstep⟩, ⟨⟨rfl, rfl⟩, zF, zB, zN, zX⟩⟩)
     replace hc := of_decide_eq_false hc
     have hfin : (decide (s ∈ (vocL (wordsT t)).take k) || decide ((⟨kk, nn, ww⟩ : PlaceD) ∈ placesL (allP t) w ∧ w = s)) = bb := by
      have := hJ.2
      rwa [take_all (show (placesL (allP t) w).length ≤ m by omega)] at this
     have hsl := sumP_le (l := allP t) (V := vocL (wordsT t)) (k + 1)
     rw [sumP_step hw, hsum] at hsl
     refine aw_exit ?_
     refine K47 _ ?_
     refine yR ?_
     refine yM rfl rfl ?_
     refine yM rfl rfl ?_
     refine aops_n rfl (n_len' rfl rfl (List.length_map _)) ?_
     refine aops_n rfl (n_add rfl rfl rfl (by omega)) ?_
     refine yA rfl rfl ?_
     refine yN ?_
     dsimp only [St.put]
     refine K42 _ ?_
     refine yR ?_
     refine aops_n rfl (n_add rfl rfl rfl (by omega)) ?_
     refine yM rfl rfl ?_
     refine yN ?_
     dsimp only [St.put]
     have e1 := sumP_step (l := allP t) hw
     have e2 := thereV_step (w := w) hw hpm
     rw [show (sumP (allP t) ((vocL (wordsT t)).take k) : Int) + ((placesL (allP t) w).length : Int) = (sumP (allP t) ((vocL (wordsT t)).take (k + 1)) : Int) by omega, ← hfin, ← e2]
     exact ⟨k + 1, by omega, by omega, ⟨⟨rfl, rfl⟩, zF, zB, zN, zX⟩⟩
    replace hc := of_decide_eq_false hc
    refine aw_exit ?_
    refine K38 _ ?_
    refine yS fun _ K55 => ?_
    rw [take_all (show (vocL (wordsT t)).length ≤ k by omega), hsum, decide_eq_true (show s ∈ vocL (wordsT t) from vocL_mem.2 (List.mem_map.2 ⟨_, List.mem_of_getElem? hx, rfl⟩))]
    refine yR ?_
    refine yM rfl rfl ?_
    refine yM rfl rfl ?_
    refine yM rfl rfl ?_
    refine aops_n rfl (n_pt rfl rfl (by constructor)) ?_
    refine yM rfl rfl ?_
    refine yM rfl rfl ?_
    refine yM rfl rfl ?_
    refine aops_n rfl (n_bool (c := true) (n_eql rfl rfl rfl) (decide_eq_true rfl)) ?_
    refine aops_n rfl (n_pt rfl rfl (by constructor)) ?_
    refine yA rfl rfl ?_
    refine yN ?_
    dsimp only [St.put]
    skip
    refine K55 _ ?_
    refine aw_ret ?_
    refine ends_1 rfl (by constructor) zN zS ?_
    rfl
   exact aeach_nil
  exact aeach_nil
 exact aeach_nil
end Go.Proofs.YtejhjijbgceklaaDoor
