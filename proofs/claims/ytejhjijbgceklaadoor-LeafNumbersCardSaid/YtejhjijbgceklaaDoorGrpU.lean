/-
  What the walks through the program rest on: values, states, steps, calls (LiFacts, LjNumbers).
-/
import Derived.Test.YtejhjijbgceklaaDoorGrpQ
import Derived.Test.YtejhjijbgceklaaDoorAbRem
import Derived.Test.YtejhjijbgceklaaDoorKxBefore
namespace Go.AB
open Go Go.RowKit
open Go.AB.Enc (cells)
open Go.PB (Chap TextD PlaceD ReadingD CopyD WayD)
theorem u16_fit {n : Int} (h : (C.v (.int .u16 n)).fit) : 0 ≤ n ∧ n ≤ 65535 := by
 have := okV_int.1 (fit_v.1 h)
 exact this
theorem n_remE {P : Program} {o : Oper} {st : St} {xt yt : TypeId} {x y : Operand} {m n r : Int} (hr : m % n = r) (ho : o.op = .binOp .rem xt x y yt) (hx : evC st x = .v (.int .i64 m)) (hy : evC st y = .v (.int .i64 n)) (hm : 0 ≤ m ∧ m ≤ 9223372036854775807) (hn : 0 < n) : NStep P o st (.v (.int .i64 r)) := hr ▸ n_rem ho hx hy hm hn
section
variable {t : TextD} {i k : Nat} {x y : PW}
theorem readyT_true : readyT t = true ↔ greatB t = false ∧ textB t = true := by simp [readyT]
theorem allP_pos (ht : textB t = true) : 1 ≤ (allP t).length := by
 obtain ⟨h1, _, h2⟩ := text_ok ht
 obtain ⟨c, hc⟩ : ∃ c, t[0]? = some c := ⟨t[0], List.getElem?_eq_getElem (by omega)⟩
 obtain ⟨h3, _, h4⟩ := h2 c (List.mem_of_getElem? hc)
 obtain ⟨l, hl⟩ : ∃ l, c.lines[0]? = some l := ⟨c.lines[0], List.getElem?_eq_getElem (by omega)⟩
 obtain ⟨h5, _⟩ := h4 l (List.mem_of_getElem? hl)
 have := (upP_prefix hc hl l.length).length_le
 simp only [List.length_append, lineP, List.length_mapIdx, List.take_length] at this
 omega
theorem mod_at (ht : textB t = true) {a : Int} (ha : 0 ≤ a) : ∃ (i : Nat) (x : PW), a % ((allP t).length : Int) = (i : Int) ∧ (allP t)[i]? = some x := by
 have h1 := allP_pos ht
 have h2 := Int.emod_nonneg a (show ((allP t).length : Int) ≠ 0 by omega)
 have h3 := Int.emod_lt_of_pos a (show (0 : Int) < ((allP t).length : Int) by omega)
 have hlt : (a % ((allP t).length : Int)).toNat < (allP t).length := by omega
 exact ⟨_, (allP t)[(a % ((allP t).length : Int)).toNat], by omega, List.getElem?_eq_getElem hlt⟩
theorem at_place (hx : (allP t)[i]? = some x) : placeB t x.1 = true := (allP_at hx).1
theorem at_before (hx : (allP t)[i]? = some x) (hy : (allP t)[k]? = some y) : cmpL (keyP x.1) (keyP y.1) < 0 ↔ (i : Int) < (k : Int) := by
 have h := num_lt (at_place hx) (at_place hy)
 rw [num_at hx rfl, num_at hy rfl] at h
 rw [cmpL_lt (by rfl), ← h]
 omega
theorem at_same (hx : (allP t)[i]? = some x) (hy : (allP t)[k]? = some y) : x.1 = y.1 ↔ (i : Int) = (k : Int) := by
 have h := num_eq (at_place hx) (at_place hy)
 rw [num_at hx rfl, num_at hy rfl] at h
 rw [← h]
 omega
end
end Go.AB
namespace Go.Proofs.YtejhjijbgceklaaDoor
set_option maxRecDepth 10000
open Go.RowKit Go.AB
open Go.AB.Enc (cells)
open Go.PB (Chap TextD PlaceD ReadingD CopyD WayD)
theorem lWords (t : TextD) (ht : textB t = true) : Pure Tryd.prog 26 [textC t] (.tup [.v (.int .i64 ((allP t).length : Int)), .v (.int .i64 0)]) := by
 have := leafWords_pure t
 rwa [show wordsN t = ((allP t).length : Int) by simp [wordsN, ht], show textEr t = 0 by simp [textEr, ht]] at this
theorem lPlaceOf (t : TextD) (ht : textB t = true) {i : Nat} {x : PW} (hx : (allP t)[i]? = some x) : Pure Tryd.prog 27 [textC t, .v (.int .i64 (i : Int))] (.tup [val x.1, .v (.int .i64 0)]) := by
 have hlt := (List.getElem?_eq_some_iff.1 hx).1
 have hE : placeOfEr t (i : Int) = 0 := by
  have : inB (i : Int) 0 (((allP t).length : Int) - 1) = true := inB_true.2 (by omega)
  simp [placeOfEr, ht, this]
 have := leafPlaceOf_pure t (i : Int)
 rwa [hE, show placeOfV t (i : Int) = x.1 by simp [placeOfV, hE, plAt_some hx]] at this
theorem lPlaceOf_no (t : TextD) (ht : textB t = true) {n : Int} (h : n < 0 ∨ ((allP t).length : Int) ≤ n) : Pure Tryd.prog 27 [textC t, .v (.int .i64 n)] (.tup [val (⟨0, 0, 0⟩ : PlaceD), .v (.int .i64 2)]) := by
 have hE : placeOfEr t n = 2 := by
  have : inB n 0 (((allP t).length : Int) - 1) = false := inB_false.2 (by omega)
  simp [placeOfEr, ht, this]
 have := leafPlaceOf_pure t n
 rwa [hE, show placeOfV t n = ⟨0, 0, 0⟩ by simp [placeOfV, hE]] at this
theorem lNumber (t : TextD) (ht : textB t = true) {i : Nat} {x : PW} (hx : (allP t)[i]? = some x) : Pure Tryd.prog 38 [textC t, val x.1] (.tup [.v (.int .i64 (i : Int)), .v (.int .i64 0)]) := by
 have hE : placedEr t x.1 = 0 := by simp [placedEr, ht, at_place hx]
 have := leafNumber_pure t x.1
 rwa [hE, show numE t x.1 = (i : Int) by simp [numE, hE, num_at hx rfl]] at this
theorem lPlace (t : TextD) (ht : textB t = true) {x : PlaceD} (hx : placeB t x = true) : Pure Tryd.prog 30 [textC t, val x] (.v (.bool true)) := by
 have := Place_pure t x ht
 rwa [hx] at this
end Go.Proofs.YtejhjijbgceklaaDoor
namespace Go.Proofs.YtejhjijbgceklaaDoor
set_option maxRecDepth 10000
open Go.RowKit Go.AB
open Go.AB.Enc (cells)
open Go.PB (Chap TextD PlaceD ReadingD CopyD WayD)
set_option maxHeartbeats 4000000 in
theorem numbers_pureN (t : TextD) (a b : Int) : PureN 0 kndF Tryd.prog 8 [textC t, .v (.int .u16 a), .v (.int .u16 b)] (.v (.bool true)) := fun G nx hF hnx => by
 refine pc_named_of_body (G) (nx) Tryd.func8 rfl (.v) zN (fun hlt => zH) ?_
 simp only [Tryd.ntmps8, List.length_cons, List.length_nil, Nat.reduceAdd, Nat.reduceSub]
 refine aw_lt fun hlt => ?_
 dsimp only at hlt
 refine aw_fit 1 (fun hfa => ?_)
 refine aw_fit 2 (fun hfb => ?_)
 replace hfa := u16_fit hfa
 replace hfb := u16_fit hfb
 refine yS fun _ K1 => ?_
 refine yR ?_
 try dsimp only [St.put]
 refine yB rfl rfl rfl ?_
 refine yA rfl rfl ?_
 refine yN ?_
 dsimp only [St.put]
 refine K1 _ ?_
 refine yS fun _ K2 => ?_
 refine yR ?_
 try dsimp only [St.put]
 refine aops_e rfl (e_call_n rfl rfl rfl (alive_pureN 0) zG (by dsimp only [St.put]; omega) ?_)
 refine yA rfl rfl ?_
 refine yN ?_
 dsimp only [St.put]
 refine K2 _ ?_
 refine yS fun _ K3 => ?_
 refine yS fun _ K4 => ?_
 refine yR ?_
 try dsimp only [St.put]
 refine aops_s rfl (s_load_agg' rfl rfl rfl) ?_
 try dsimp only [St.put]
 refine aops_e rfl (e_call_pure rfl rfl rfl (lawReady_pure t) ?_)
 refine aops_n rfl (n_not rfl rfl) ?_
 refine yM rfl rfl ?_
 refine aops_split (fun hs => ?_) (fun hs => ?_)
 ·skip
  refine yK rfl ?_
  refine yK rfl ?_
  refine aops_n rfl (n_pt rfl rfl (by constructor)) ?_
  refine yN ?_
  dsimp only [St.put]
  refine K4 _ ?_
  refine aw_cond rfl (fun _ => ?_) (fun h => by cases h)
  refine yS fun _ K5 => ?_
  refine yR ?_
  refine yM rfl rfl ?_
  refine yA rfl rfl ?_
  refine yN ?_
  dsimp only [St.put]
  refine K5 _ ?_
  refine aw_ret ?_
  refine ends_1 rfl (by constructor) zN zS ?_
  rfl
 have hr : readyT t = true := by simpa using hs
 obtain ⟨_, ht⟩ := readyT_true.1 hr
 have hN := allP_len ht
 have hN1 := allP_pos ht
 obtain ⟨i, x, hi, hx⟩ := mod_at ht hfa.1
 obtain ⟨k, y, hk, hy⟩ := mod_at ht hfb.1
 have hil := (List.getElem?_eq_some_iff.1 hx).1
 have hkl := (List.getElem?_eq_some_iff.1 hy).1
 refine yM rfl rfl ?_
 refine aops_n rfl (n_not rfl rfl) ?_
 refine aops_n rfl (n_pf rfl rfl (by constructor)) ?_
 refine yN ?_
 dsimp only [St.put]
 refine K4 _ ?_
 refine aw_cond rfl (fun h => by cases h) (fun _ => ?_)
 refine aw_skip ?_
 refine K3 _ ?_
 refine yS fun _ K6 => ?_
 refine yR ?_
 try dsimp only [St.put]
 refine aops_s rfl (s_load_agg' rfl rfl rfl) ?_
 try dsimp only [St.put]
 refine aops_e rfl (e_call_pure rfl rfl rfl (lWords t ht) ?_)
 refine yM rfl rfl ?_
 refine yX rfl rfl rfl rfl ?_
 refine yX rfl rfl rfl rfl ?_
 refine yA rfl rfl ?_
 refine yA rfl rfl ?_
 refine yN ?_
 dsimp only [St.put]
 refine K6 _ ?_
 refine yS fun _ K7 => ?_
 refine yS fun _ K8 => ?_
 refine yR ?_
 refine yM rfl rfl ?_
 refine aops_n rfl (n_bool (c := false) (n_neq rfl rfl rfl) (not_dec_f rfl)) ?_
 refine yM rfl rfl ?_
 refine yM rfl rfl ?_
 refine aops_n rfl (n_bool (c := false) (n_lss rfl rfl rfl) (decide_eq_false (by omega))) ?_
 refine aops_n rfl (n_pf rfl rfl (by constructor)) ?_
 refine yN ?_
 dsimp only [St.put]
 refine K8 _ ?_
 refine aw_cond rfl (fun h => by cases h) (fun _ => ?_)
 refine aw_skip ?_
 refine K7 _ ?_
 refine yS fun _ K9 => ?_
 refine aw_draw [(0, none), (1, none), (2, none), (3, none), (4, none), (5, none), (6, none), (7, none), (8, none), (9, none)] (fun i => [].contains i) (fun i => [].contains i) (fun i => [0, 1, 2, 3, 4, 5, 6, 7, 8, 9].contains i) [] (by kernel_rfl) (by kernel_rfl) ?_
 refine xM rfl rfl rfl rfl rfl ?_
 refine acan1_n rfl rfl rfl rfl (n_conv rfl rfl rfl rfl (by omega)) ?_
 refine xM rfl rfl rfl rfl rfl ?_
 refine acan1_n rfl rfl rfl rfl (n_remE hi rfl rfl rfl (by omega) (by omega)) ?_
 refine xM rfl rfl rfl rfl rfl ?_
 refine acan1_n rfl rfl rfl rfl (n_conv rfl rfl rfl rfl (by omega)) ?_
 refine xM rfl rfl rfl rfl rfl ?_
 refine acan1_n rfl rfl rfl rfl (n_remE hk rfl rfl rfl (by omega) (by omega)) ?_
 refine acan1_n rfl rfl rfl rfl (n_as rfl (by constructor)) ?_
 refine acan1_n rfl rfl rfl rfl (n_as rfl (by constructor)) ?_
 refine acan1_nil ?_
 dsimp only [St.put]
 refine K9 _ ?_
 refine yS fun _ K10 => ?_
 refine yR ?_
 try dsimp only [St.put]
 refine aops_s rfl (s_load_agg' rfl rfl rfl) ?_
 refine yM rfl rfl ?_
 try dsimp only [St.put]
 refine aops_e rfl (e_call_pure rfl rfl rfl (lPlaceOf t ht hx) ?_)
 refine yM rfl rfl ?_
 refine yX rfl rfl rfl rfl ?_
 refine yX rfl rfl rfl rfl ?_
 try dsimp only [St.put]
 refine aops_e rfl (e_allocC rfl ?_)
 try dsimp only [St.put]
 refine aops_e rfl (e_store_all rfl rfl rfl zG rfl rfl (by rfl) ?_)
 refine yA rfl rfl ?_
 refine yN ?_
 dsimp only [St.put]
 refine K10 _ ?_
 refine aw_commitD (i := 12) rfl zG (by first | exact List.cons_ne_nil _ _ | (simp; done) | (simp [putAt]; done)) ?_
 dsimp only
 refine yS fun _ K11 => ?_
 refine yR ?_
 try dsimp only [St.put]
 refine aops_s rfl (s_load_agg' rfl rfl rfl) ?_
 refine yM rfl rfl ?_
 try dsimp only [St.put]
 refine aops_e rfl (e_call_pure rfl rfl rfl (lPlaceOf t ht hy) ?_)
 refine yM rfl rfl ?_
 refine yX rfl rfl rfl rfl ?_
 refine yX rfl rfl rfl rfl ?_
 try dsimp only [St.put]
 refine aops_e rfl (e_allocC rfl ?_)
 try dsimp only [St.put]
 refine aops_e rfl (e_store_all rfl rfl rfl zG rfl rfl (by rfl) ?_)
 refine yA rfl rfl ?_
 refine yN ?_
 dsimp only [St.put]
 refine K11 _ ?_
 refine aw_commitD (i := 14) rfl zG (by first | exact List.cons_ne_nil _ _ | (simp; done) | (simp [putAt]; done)) ?_
 dsimp only
 refine yS fun _ K12 => ?_
 refine yR ?_
 try dsimp only [St.put]
 refine aops_s rfl (s_load_agg' rfl rfl rfl) ?_
 refine yE rfl rfl rfl ?_
 try dsimp only [St.put]
 refine aops_e rfl (e_call_pure rfl rfl rfl (lNumber t ht hx) ?_)
 refine yM rfl rfl ?_
 refine yX rfl rfl rfl rfl ?_
 refine yX rfl rfl rfl rfl ?_
 refine yA rfl rfl ?_
 refine yA rfl rfl ?_
 refine yN ?_
 dsimp only [St.put]
 refine K12 _ ?_
 refine yS fun _ K13 => ?_
 refine yR ?_
 try dsimp only [St.put]
 refine aops_s rfl (s_load_agg' rfl rfl rfl) ?_
 refine yM rfl rfl ?_
 try dsimp only [St.put]
 refine aops_e rfl (e_call_pure rfl rfl rfl (lPlaceOf_no t ht (.inr (Int.le_refl _))) ?_)
 refine yM rfl rfl ?_
 refine yX rfl rfl rfl rfl ?_
 refine yX rfl rfl rfl rfl ?_
 try dsimp only [St.put]
 refine aops_e rfl (e_allocC rfl ?_)
 try dsimp only [St.put]
 refine aops_e rfl (e_store_all rfl rfl rfl zG rfl rfl (by rfl) ?_)
 refine yA rfl rfl ?_
 refine yN ?_
 dsimp only [St.put]
 refine K13 _ ?_
 refine aw_commitD (i := 18) rfl zG (by first | exact List.cons_ne_nil _ _ | (simp; done) | (simp [putAt]; done)) ?_
 dsimp only
 refine yS fun _ K14 => ?_
 refine yR ?_
 try dsimp only [St.put]
 refine aops_s rfl (s_load_agg' rfl rfl rfl) ?_
 try dsimp only [St.put]
 refine aops_e rfl (e_call_pure rfl rfl rfl (lPlaceOf_no t ht (.inl (by decide))) ?_)
 refine yM rfl rfl ?_
 refine yX rfl rfl rfl rfl ?_
 refine yX rfl rfl rfl rfl ?_
 try dsimp only [St.put]
 refine aops_e rfl (e_allocC rfl ?_)
 try dsimp only [St.put]
 refine aops_e rfl (e_store_all rfl rfl rfl zG rfl rfl (by rfl) ?_)
 refine yA rfl rfl ?_
 refine yN ?_
 dsimp only [St.put]
 refine K14 _ ?_
 refine aw_commitD (i := 20) rfl zG (by first | exact List.cons_ne_nil _ _ | (simp; done) | (simp [putAt]; done)) ?_
 dsimp only
 refine yS fun _ K15 => ?_
 refine yR ?_
 refine yM rfl rfl ?_
 refine yM rfl rfl ?_
 refine yM rfl rfl ?_
 refine aops_n rfl (n_bool (n_eql rfl rfl rfl) (decide_eq_true (by omega))) ?_
 refine aops_n rfl (n_pt rfl rfl (by constructor)) ?_
 refine yM rfl rfl ?_
 refine yM rfl rfl ?_
 refine aops_n rfl (n_bool (n_eql rfl rfl rfl) (decide_eq_true (by omega))) ?_
 refine aops_n rfl (n_pt rfl rfl (by constructor)) ?_
 refine yM rfl rfl ?_
 refine yM rfl rfl ?_
 refine aops_n rfl (n_bool (n_eql rfl rfl rfl) (decide_eq_true (by omega))) ?_
 refine aops_n rfl (n_pt rfl rfl (by constructor)) ?_
 refine yM rfl rfl ?_
 refine yM rfl rfl ?_
 refine yM rfl rfl ?_
 refine aops_n rfl (n_bool (n_eql rfl rfl rfl) (decide_eq_true (by omega))) ?_
 refine aops_n rfl (n_pt rfl rfl (by constructor)) ?_
 refine yM rfl rfl ?_
 try dsimp only [St.put]
 refine aops_s rfl (s_load_agg' rfl rfl rfl) ?_
 refine yE rfl rfl rfl ?_
 try dsimp only [St.put]
 refine aops_e rfl (e_call_pure rfl rfl rfl (lPlace t ht (at_place hx)) ?_)
 refine aops_n rfl (n_pt rfl rfl (by constructor)) ?_
 refine yM rfl rfl ?_
 refine yE rfl rfl rfl ?_
 refine yE rfl rfl rfl ?_
 try dsimp only [St.put]
 refine aops_e rfl (e_call_pure rfl rfl rfl (Before_pure x.1 y.1) ?_)
 refine yM rfl rfl ?_
 refine yM rfl rfl ?_
 refine aops_n rfl (n_lss rfl rfl rfl) ?_
 refine aops_n rfl (n_bool (c := true) (n_beql rfl rfl rfl rfl) (beq_iff (decide_eq_true_iff.trans (at_before hx hy)))) ?_
 refine aops_n rfl (n_pt rfl rfl (by constructor)) ?_
 refine yM rfl rfl ?_
 refine yE rfl rfl rfl ?_
 refine yE rfl rfl rfl ?_
 refine aops_n rfl (n_agg_eql (x := x.1) (y := y.1) rfl rfl rfl) ?_
 refine yM rfl rfl ?_
 refine yM rfl rfl ?_
 refine aops_n rfl (n_eql rfl rfl rfl) ?_
 refine aops_n rfl (n_bool (c := true) (n_beql rfl rfl rfl rfl) (beq_iff (decide_eq_true_iff.trans (at_same hx hy)))) ?_
 refine aops_n rfl (n_pt rfl rfl (by constructor)) ?_
 refine yM rfl rfl ?_
 refine yM rfl rfl ?_
 refine aops_n rfl (n_bool (n_eql rfl rfl rfl) (decide_eq_true (by omega))) ?_
 refine aops_n rfl (n_pt rfl rfl (by constructor)) ?_
 refine yM rfl rfl ?_
 refine yM rfl rfl ?_
 refine aops_n rfl (n_bool (n_eql rfl rfl rfl) (decide_eq_true (by omega))) ?_
 refine aops_n rfl (n_pt rfl rfl (by constructor)) ?_
 refine yA rfl rfl ?_
 refine yN ?_
 dsimp only [St.put]
 refine K15 _ ?_
 refine aw_ret ?_
 refine ends_1 rfl (by constructor) zN zS ?_
 rfl
end Go.Proofs.YtejhjijbgceklaaDoor
