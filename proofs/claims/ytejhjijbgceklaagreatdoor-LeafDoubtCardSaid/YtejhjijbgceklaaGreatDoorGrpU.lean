/-
  What the walks through the program rest on: values, states, steps, calls (LiFacts, LnDoubt).
-/
import Derived.Test.YtejhjijbgceklaaGreatDoorGrpQ
import Derived.Test.YtejhjijbgceklaaGreatDoorAbRem
import Derived.Test.YtejhjijbgceklaaGreatDoorGrpX
namespace Go.AB
open Go Go.RowKit
open Go.AB.Enc (cells)
open Go.PB (Chap TextD PlaceD ReadingD CopyD WayD)
theorem u16_fit {n : Int} (h : (C.v (.int .u16 n)).fit) : 0 ≤ n ∧ n ≤ 65535 := by
 have := okV_int.1 (fit_v.1 h)
 exact this
theorem n_remE {P : Program} {o : Oper} {st : St} {xt yt : TypeId} {x y : Operand} {m n r : Int} (hr : m % n = r) (ho : o.op = .binOp .rem xt x y yt) (hx : evC st x = .v (.int .i64 m)) (hy : evC st y = .v (.int .i64 n)) (hm : 0 ≤ m ∧ m ≤ 9223372036854775807) (hn : 0 < n) : NStep P o st (.v (.int .i64 r)) := hr ▸ n_rem ho hx hy hm hn
section
variable {t : TextD} {i k : Nat} {x y : PW}
theorem readyT_true : readyT t = true ↔ greatB t = false ∧ textB t = true := by simp [readyT]
theorem rightC_true {c : CopyD} : rightC t c = true ↔ greatCp c = false ∧ copyB t c = true := by simp [rightC]
theorem allP_pos (ht : textB t = true) : 1 ≤ (allP t).length := by
 obtain ⟨h1, _, h2⟩ := text_ok ht
 obtain ⟨c, hc⟩ : ∃ c, t[0]? = some c := ⟨t[0], List.getElem?_eq_getElem (by omega)⟩
 obtain ⟨h3, _, h4⟩ := h2 c (List.mem_of_getElem? hc)
 obtain ⟨l, hl⟩ : ∃ l, c.lines[0]? = some l := ⟨c.lines[0], List.getElem?_eq_getElem (by omega)⟩
 obtain ⟨h5, _⟩ := h4 l (List.mem_of_getElem? hl)
 have := (upP_prefix hc hl l.length).length_le
 simp only [List.length_append, lineP, List.length_mapIdx, List.take_length] at this
 omega
theorem mod_at (ht : textB t = true) {a : Int} (ha : 0 ≤ a) : ∃ (i : Nat) (x : PW), a % ((allP t).length : Int) = (i : Int) ∧ (allP t)[i]? = some x := by
 have h1 := allP_pos ht
 have h2 := Int.emod_nonneg a (show ((allP t).length : Int) ≠ 0 by omega)
 have h3 := Int.emod_lt_of_pos a (show (0 : Int) < ((allP t).length : Int) by omega)
 have hlt : (a % ((allP t).length : Int)).toNat < (allP t).length := by omega
 exact ⟨_, (allP t)[(a % ((allP t).length : Int)).toNat], by omega, List.getElem?_eq_getElem hlt⟩
theorem at_place (hx : (allP t)[i]? = some x) : placeB t x.1 = true := (allP_at hx).1
theorem at_before (hx : (allP t)[i]? = some x) (hy : (allP t)[k]? = some y) : cmpL (keyP x.1) (keyP y.1) < 0 ↔ (i : Int) < (k : Int) := by
 have h := num_lt (at_place hx) (at_place hy)
 rw [num_at hx rfl, num_at hy rfl] at h
 rw [cmpL_lt (by rfl), ← h]
 omega
end
end Go.AB
namespace Go.Proofs.YtejhjijbgceklaaGreatDoor
set_option maxRecDepth 10000
open Go.RowKit Go.AB
open Go.AB.Enc (cells)
open Go.PB (Chap TextD PlaceD ReadingD CopyD WayD)
theorem lWords (t : TextD) (ht : textB t = true) : Pure Tryz.prog 20 [textC t] (.tup [.v (.int .i64 ((allP t).length : Int)), .v (.int .i64 0)]) := by
 have := leafWords_pure t
 rwa [show wordsN t = ((allP t).length : Int) by simp [wordsN, ht], show textEr t = 0 by simp [textEr, ht]] at this
theorem lPlaceOf (t : TextD) (ht : textB t = true) {i : Nat} {x : PW} (hx : (allP t)[i]? = some x) : Pure Tryz.prog 21 [textC t, .v (.int .i64 (i : Int))] (.tup [val x.1, .v (.int .i64 0)]) := by
 have hlt := (List.getElem?_eq_some_iff.1 hx).1
 have hE : placeOfEr t (i : Int) = 0 := by
  have : inB (i : Int) 0 (((allP t).length : Int) - 1) = true := inB_true.2 (by omega)
  simp [placeOfEr, ht, this]
 have := leafPlaceOf_pure t (i : Int)
 rwa [hE, show placeOfV t (i : Int) = x.1 by simp [placeOfV, hE, plAt_some hx]] at this
theorem lAt (t : TextD) (ht : textB t = true) {i : Nat} {x : PW} (hx : (allP t)[i]? = some x) : Pure Tryz.prog 22 [textC t, val x.1] (.tup [.v (.string x.2), .v (.int .i64 0)]) := by
 have hE : placedEr t x.1 = 0 := by simp [placedEr, ht, at_place hx]
 have := leafAt_pure t x.1
 rwa [hE, show atWord t x.1 = x.2 by
  have := (allP_at hx).2
  unfold wordP at this
  simp only [atWord, ht, at_place hx, Bool.and_self, cond_true]
  exact this] at this
theorem lPlace (t : TextD) (ht : textB t = true) {x : PlaceD} (hx : placeB t x = true) : Pure Tryz.prog 23 [textC t, val x] (.v (.bool true)) := by
 have := Place_pure t x ht
 rwa [hx] at this
end Go.Proofs.YtejhjijbgceklaaGreatDoor
namespace Go.AB
open Go Go.RowKit
open Go.AB.Enc (cells)
open Go.PB (Chap TextD PlaceD ReadingD CopyD WayD)
theorem pw_prev {α : Type} {R : α → α → Prop} {l : List α} (h : l.Pairwise R) {a b : α} {k : Nat} (hk : 0 < k) (ha : l[k - 1]? = some a) (hb : l[k]? = some b) : R a b := by
 obtain ⟨h1, h2⟩ := List.getElem?_eq_some_iff.1 ha
 obtain ⟨h3, h4⟩ := List.getElem?_eq_some_iff.1 hb
 have := List.pairwise_iff_getElem.1 h (k - 1) k h1 h3 (by omega)
 rwa [h2, h4] at this
theorem doubtL_order (t : TextD) (cs : List CopyD) : (doubtL (allP t) cs).Pairwise fun p q => cmpL (keyP p) (keyP q) < 0 := by
 unfold doubtL
 rw [List.pairwise_map]
 refine List.Pairwise.filter _ ?_
 rw [List.pairwise_iff_getElem]
 intro i j hi hj hij
 exact (at_before (List.getElem?_eq_getElem hi) (List.getElem?_eq_getElem hj)).2 (by omega)
theorem doubtL_mem {t : TextD} {cs : List CopyD} {x : PW} (hx : x ∈ allP t) : x.1 ∈ doubtL (allP t) cs ↔ doubtB cs x = true := by
 unfold doubtL
 simp only [List.mem_map, List.mem_filter]
 constructor
 ·rintro ⟨y, ⟨h1, h2⟩, h3⟩
  have e1 := allP_wordP h1
  have e2 := allP_wordP hx
  rw [h3] at e1
  have : y = x := Prod.ext h3 (e1.symm.trans e2)
  rwa [this] at h2
 exact fun h => ⟨x, ⟨hx, h⟩, rfl⟩
theorem doubtL_place {t : TextD} {cs : List CopyD} {q : PlaceD} (h : q ∈ doubtL (allP t) cs) : placeB t q = true := by
 obtain ⟨y, hy, rfl⟩ := List.mem_map.1 h
 exact allP_mem.1 (List.mem_map.2 ⟨y, (List.mem_filter.1 hy).1, rfl⟩)
theorem doubtB_step {cs : List CopyD} {k : Nat} {c : CopyD} {x : PW} (h : cs[k]? = some c) : doubtB (cs.take (k + 1)) x = (doubtB (cs.take k) x || !decide (standR c.rs x.1 x.2 = x.2)) := by
 unfold doubtB
 rw [any_take h]
theorem mem_step {α : Type} [DecidableEq α] {l : List α} {k : Nat} {q p : α} (h : l[k]? = some q) : decide (p ∈ l.take (k + 1)) = (decide (p ∈ l.take k) || decide (q = p)) := by
 rw [List.take_add_one, h, Option.toList_some, Bool.eq_iff_iff]
 simp only [decide_eq_true_eq, List.mem_append, List.mem_singleton, Bool.or_eq_true]
 exact or_congr Iff.rfl eq_comm
end Go.AB
namespace Go.Proofs.YtejhjijbgceklaaGreatDoor
set_option maxRecDepth 10000
open Go.RowKit Go.AB
open Go.AB.Enc (cells)
open Go.PB (Chap TextD PlaceD ReadingD CopyD WayD)
theorem lBef {a b : PlaceD} (h : cmpL (keyP a) (keyP b) < 0) : Pure Tryz.prog 24 [val a, val b] (.v (.bool true)) := by
 have := Before_pure a b
 rwa [decide_eq_true h] at this
theorem lDoubt (n : Nat) (t : TextD) (cs : List CopyD) (ht : textB t = true) (hl : cs.length ≤ 5) (hc : cs.all (copyB t) = true) : PureN n kndF Tryz.prog 19 [textC t, lst cs] (.tup [lst (doubtL (allP t) cs), .v (.int .i64 0)]) := by
 have hE : doubtEr t cs = 0 := by simp [doubtEr, ht, hl, hc]
 have := leafDoubt_pureN n t cs
 rwa [hE, show doubtV t cs = doubtL (allP t) cs by simp [doubtV, hE]] at this
theorem lStands (n : Nat) (t : TextD) (c : CopyD) (ht : textB t = true) (hc : copyB t c = true) {x : PW} (hx : x ∈ allP t) : PureN n kndF Tryz.prog 17 [textC t, val c, val x.1] (.tup [.v (.string (standR c.rs x.1 x.2)), .v (.int .i64 0)]) := by
 have hE : standsEr t c x.1 = 0 := by
  have h0 : copyEr t c = 0 := copyEr_zero.2 ⟨ht, hc⟩
  simp [standsEr, h0, allP_mem.1 (List.mem_map.2 ⟨x, hx, rfl⟩)]
 have := leafStands_pureN n t c x.1
 rwa [hE, show standsV t c x.1 = standR c.rs x.1 x.2 by simp [standsV, hE, allP_wordP hx]] at this
set_option maxHeartbeats 8000000 in
theorem doubt_pureN (t : TextD) (l : List CopyD) (a : Int) : PureN 0 kndF Tryz.prog 6 [textC t, lst l, .v (.int .u16 a)] (.v (.bool true)) := fun G nx hF hnx => by
 refine pc_named_of_body (G) (nx) Tryz.func6 rfl (.v) zN (fun hlt => zH) ?_
 simp only [Tryz.ntmps6, List.length_cons, List.length_nil, Nat.reduceAdd, Nat.reduceSub]
 refine aw_lt fun hlt => ?_
 dsimp only at hlt
 refine aw_fit 2 (fun hfa => ?_)
 replace hfa := u16_fit hfa
 refine aw_fit 1 (fun hfl => ?_)
 have hfl1 := (fit_lst.1 hfl).1
 refine yS fun _ K1 => ?_
 refine yR ?_
 try dsimp only [St.put]
 refine yB rfl rfl rfl ?_
 refine yA rfl rfl ?_
 refine yN ?_
 dsimp only [St.put]
 refine K1 _ ?_
 refine yS fun _ K2 => ?_
 refine yR ?_
 try dsimp only [St.put]
 refine aops_e rfl (e_call_n rfl rfl rfl (alive_pureN 0) zG (by dsimp only [St.put]; omega) ?_)
 refine yA rfl rfl ?_
 refine yN ?_
 dsimp only [St.put]
 refine K2 _ ?_
 refine yS fun _ K3 => ?_
 refine yS fun _ K4 => ?_
 refine yR ?_
 try dsimp only [St.put]
 refine aops_s rfl (s_load_agg' rfl rfl rfl) ?_
 try dsimp only [St.put]
 refine aops_e rfl (e_call_pure rfl rfl rfl (lawReady_pure t) ?_)
 refine aops_n rfl (n_not rfl rfl) ?_
 refine yM rfl rfl ?_
 refine aops_split (fun hs => ?_) (fun hs => ?_)
 ·skip
  refine yK rfl ?_
  refine yK rfl ?_
  refine yK rfl ?_
  refine aops_n rfl (n_pt rfl rfl (by constructor)) ?_
  refine yM rfl rfl ?_
  refine yK rfl ?_
  refine yK rfl ?_
  refine aops_n rfl (n_pt rfl rfl (by constructor)) ?_
  refine yN ?_
  dsimp only [St.put]
  refine K4 _ ?_
  refine aw_cond rfl (fun _ => ?_) (fun h => by cases h)
  refine yS fun _ K5 => ?_
  refine yR ?_
  refine yM rfl rfl ?_
  refine yA rfl rfl ?_
  refine yN ?_
  dsimp only [St.put]
  refine K5 _ ?_
  refine aw_ret ?_
  refine ends_1 rfl (by constructor) zN zS ?_
  rfl
 have ht : textB t = true := by
  have : readyT t = true := by simpa using hs
  exact (readyT_true.1 this).2
 have hN := allP_len ht
 have hN1 := allP_pos ht
 obtain ⟨i, x, hi, hx⟩ := mod_at ht hfa.1
 have hxm := List.mem_of_getElem? hx
 refine yM rfl rfl ?_
 refine aops_n rfl (n_len' rfl rfl (List.length_map _)) ?_
 refine aops_n rfl (n_gtr rfl rfl rfl) ?_
 refine aops_n rfl (n_pf rfl rfl (by constructor)) ?_
 refine yM rfl rfl ?_
 refine aops_split (fun hs => ?_) (fun hs => ?_)
 ·skip
  refine yK rfl ?_
  refine yK rfl ?_
  refine aops_n rfl (n_pt rfl rfl (by constructor)) ?_
  refine yN ?_
  dsimp only [St.put]
  refine K4 _ ?_
  refine aw_cond rfl (fun _ => ?_) (fun h => by cases h)
  refine yS fun _ K6 => ?_
  refine yR ?_
  refine yM rfl rfl ?_
  refine yA rfl rfl ?_
  refine yN ?_
  dsimp only [St.put]
  refine K6 _ ?_
  refine aw_ret ?_
  refine ends_1 rfl (by constructor) zN zS ?_
  rfl
 have hl5 : l.length ≤ 5 := by
  have := of_decide_eq_false hs
  omega
 refine yM rfl rfl ?_
 refine aops_n rfl (n_not rfl rfl) ?_
 refine aops_n rfl (n_pf rfl rfl (by constructor)) ?_
 refine yN ?_
 dsimp only [St.put]
 refine K4 _ ?_
 refine aw_cond rfl (fun h => by cases h) (fun _ => ?_)
 refine aw_skip ?_
 refine K3 _ ?_
 refine yS fun _ K7 => ?_
 refine yS fun _ K8 => ?_
 refine yR ?_
 refine yM rfl rfl ?_
 refine aops_n rfl (n_len' rfl rfl (List.length_map _)) ?_
 refine yM rfl rfl ?_
 refine yN ?_
 dsimp only [St.put]
 refine K8 _ ?_
 refine aw_block ?_
 refine aw_wipe 43 ?_
 simp only [firsts, getA, Nat.reduceAdd, List.getD_cons_zero, List.getD_cons_succ, List.getD_nil, natBeq, Nat.reduceBEq, cond_true, cond_false]
 refine aw_forget (G) zX ?_
 dsimp only
 refine aw_loopD (X := Nat) (fun k => k ≤ l.length ∧ (l.take k).all (copyB t) = true) (fun k => l.length - k) (fun k => [(9, .any), (42, .v (.int .i64 (k : Int)))]) (fun k G' => G') 0 rfl ?_ ?_ (fun _ _ h => h) ?_ ?_ ?_
 ·exact ⟨Nat.zero_le _, rfl⟩
 ·exact zF
 ·rintro k hI
  exact zL
 ·exact fun _ _ _ _ h => .inl h
 rintro k hI
 dsimp only at hI ⊢
 refine yS fun _ K9 => ?_
 refine yR ?_
 refine aops_n rfl (n_lss rfl rfl rfl) ?_
 refine yN ?_
 dsimp only [St.put]
 refine K9 _ ?_
 refine yS fun _ K10 => ?_
 refine aw_cond rfl (fun hc => ?_) (fun hc => ?_)
 ·replace hc := of_decide_eq_true hc
  obtain ⟨c, hck⟩ : ∃ c, l[k]? = some c := some_of_lt (by omega)
  refine aw_skip ?_
  refine K10 _ ?_
  refine yS fun _ K11 => ?_
  refine aw_block ?_
  refine yS fun _ K12 => ?_
  refine yR ?_
  refine aops_n rfl (n_indexAddr rfl rfl rfl rfl (map_get (by assumption)) (Enc.len _)) ?_
  refine yE rfl rfl rfl ?_
  try dsimp only [St.put]
  refine aops_e rfl (e_allocC rfl ?_)
  try dsimp only [St.put]
  refine aops_e rfl (e_store_all rfl rfl rfl zG rfl rfl (by rfl) ?_)
  refine yN ?_
  dsimp only [St.put]
  refine K12 _ ?_
  refine aw_commitD (i := 9) rfl zG (by first | exact List.cons_ne_nil _ _ | (simp; done) | (simp [putAt]; done)) ?_
  dsimp only
  refine yS fun _ K13 => ?_
  refine yR ?_
  try dsimp only [St.put]
  refine aops_s rfl (s_load_agg' rfl rfl rfl) ?_
  refine yE rfl rfl rfl ?_
  try dsimp only [St.put]
  refine aops_e rfl (e_call_pure rfl rfl rfl (lawRight_pure t c ht) ?_)
  refine aops_n rfl (n_not rfl rfl) ?_
  refine yN ?_
  dsimp only [St.put]
  refine K13 _ ?_
  refine aw_cond rfl (fun hc => ?_) (fun hc => ?_)
  ·try replace hc := of_decide_eq_true hc
   refine yS fun _ K14 => ?_
   refine yR ?_
   refine yM rfl rfl ?_
   refine yA rfl rfl ?_
   refine yN ?_
   dsimp only [St.put]
   refine K14 _ ?_
   refine aw_ret ?_
   refine ends_1 rfl (by constructor) zN zS ?_
   rfl
  have hcB : copyB t c = true := by
   have : rightC t c = true := by simpa using hc
   exact (rightC_true.1 this).2
  refine aw_skip ?_
  refine K11 _ ?_
  refine yR ?_
  refine aops_n rfl (n_add rfl rfl rfl (by omega)) ?_
  refine yM rfl rfl ?_
  refine yN ?_
  dsimp only [St.put]
  exact ⟨k + 1, by omega, ⟨by omega, by rw [all_take hck, hI.2, hcB]; rfl⟩, ⟨⟨rfl, rfl⟩, zF, zB, zN, zX⟩⟩
 replace hc := of_decide_eq_false hc
 have hall := hI.2
 rw [take_all (show l.length ≤ k by omega)] at hall
 have hcp : ∀ c ∈ l, copyB t c = true := fun c h => List.all_eq_true.1 hall c h
 have hdl := doubtL_len (allP t) l
 have hord := doubtL_order t l
 refine aw_exit ?_
 refine K7 _ ?_
 refine yS fun _ K15 => ?_
 refine yR ?_
 try dsimp only [St.put]
 refine aops_s rfl (s_load_agg' rfl rfl rfl) ?_
 refine yM rfl rfl ?_
 try dsimp only [St.put]
 refine aops_e rfl (e_call_n rfl rfl rfl (lDoubt 0 t l ht hl5 hall) zG (by dsimp only [St.put]; omega) ?_)
 refine yM rfl rfl ?_
 refine yX rfl rfl rfl rfl ?_
 refine yX rfl rfl rfl rfl ?_
 refine yA rfl rfl ?_
 refine yA rfl rfl ?_
 refine yN ?_
 dsimp only [St.put]
 refine K15 _ ?_
 refine yS fun _ K16 => ?_
 refine yR ?_
 try dsimp only [St.put]
 refine aops_s rfl (s_load_agg' rfl rfl rfl) ?_
 try dsimp only [St.put]
 refine aops_e rfl (e_call_pure rfl rfl rfl (lWords t ht) ?_)
 refine yM rfl rfl ?_
 refine yX rfl rfl rfl rfl ?_
 refine yX rfl rfl rfl rfl ?_
 refine yA rfl rfl ?_
 refine yA rfl rfl ?_
 refine yN ?_
 dsimp only [St.put]
 refine K16 _ ?_
 refine yS fun _ K17 => ?_
 refine yS fun _ K18 => ?_
 refine yR ?_
 refine yM rfl rfl ?_
 refine aops_n rfl (n_bool (c := false) (n_neq rfl rfl rfl) (not_dec_f rfl)) ?_
 refine yM rfl rfl ?_
 refine yM rfl rfl ?_
 refine aops_n rfl (n_bool (c := false) (n_neq rfl rfl rfl) (not_dec_f rfl)) ?_
 refine aops_n rfl (n_pf rfl rfl (by constructor)) ?_
 refine yM rfl rfl ?_
 refine yM rfl rfl ?_
 refine aops_n rfl (n_bool (c := false) (n_lss rfl rfl rfl) (decide_eq_false (by omega))) ?_
 refine aops_n rfl (n_pf rfl rfl (by constructor)) ?_
 refine yN ?_
 dsimp only [St.put]
 refine K18 _ ?_
 refine aw_cond rfl (fun h => by cases h) (fun _ => ?_)
 refine aw_skip ?_
 refine K17 _ ?_
 refine yS fun _ K19 => ?_
 refine aw_drawT [(0, none), (1, none), (2, none), (3, none), (4, none)] (fun _ => false) (fun i => [1, 2, 3, 4].contains i) 7 [true, true, true, true, true, false, false, false, false, false, false, false] (by kernel_rfl) (by kernel_rfl) ?_
 try dsimp only [St.put]
 refine acan1_s rfl rfl rfl rfl (s_load_agg' rfl rfl rfl) ?_
 refine xM rfl rfl rfl rfl rfl ?_
 refine acan1_n rfl rfl rfl rfl (n_conv rfl rfl rfl rfl (by omega)) ?_
 refine xM rfl rfl rfl rfl rfl ?_
 refine acan1_n rfl rfl rfl rfl (n_remE hi rfl rfl rfl (by omega) (by omega)) ?_
 refine acan1_nil ?_
 refine aany_step [5, 9] (by kernel_rfl) (by simp) ?_
 refine aeach_cons ?_ ?_
 ·try dsimp only [St.put]
  refine aone_e rfl rfl rfl (e_call_pure rfl rfl rfl (lPlaceOf t ht hx) ?_)
  refine aany_quiet [(6, none), (7, none), (8, none)] (fun i => [6, 7, 8].contains i) 3 [true, true, true, true, true, true, true, true, true, false, false, false] (by kernel_rfl) ?_
  refine xM rfl rfl rfl rfl rfl ?_
  refine acan1_n rfl rfl rfl rfl (n_extract rfl rfl rfl) ?_
  refine acan1_n rfl rfl rfl rfl (n_extract rfl rfl rfl) ?_
  refine acan1_nil ?_
  refine aany_step [9] (by kernel_rfl) (by simp) ?_
  refine aeach_cons ?_ ?_
  ·try dsimp only [St.put]
   refine aone_e rfl rfl rfl (e_allocC rfl ?_)
   refine aany_step [10] (by kernel_rfl) (by simp) ?_
   refine aeach_cons ?_ ?_
   ·try dsimp only [St.put]
    refine aone_e rfl rfl rfl (e_store_all rfl rfl rfl zG rfl rfl (by rfl) ?_)
    refine aany_quiet [(11, none)] (fun i => [11].contains i) 0 [true, true, true, true, true, true, true, true, true, true, true, true] (by kernel_rfl) ?_
    refine acan1_n rfl rfl rfl rfl (n_as rfl (by constructor)) ?_
    refine acan1_nil ?_
    dsimp only [St.put]
    refine aany_of_tr (tr_commit (i := 14) rfl zG (by first | exact List.cons_ne_nil _ _ | (simp; done) | (simp [putAt]; done))) ?_
    dsimp only
    refine aany_nil (by kernel_rfl) ?_
    refine K19 _ ?_
    refine yS fun _ K20 => ?_
    refine yR ?_
    try dsimp only [St.put]
    refine aops_s rfl (s_load_agg' rfl rfl rfl) ?_
    refine yE rfl rfl rfl ?_
    try dsimp only [St.put]
    refine aops_e rfl (e_call_pure rfl rfl rfl (lAt t ht hx) ?_)
    refine yM rfl rfl ?_
    refine yX rfl rfl rfl rfl ?_
    refine yX rfl rfl rfl rfl ?_
    refine yA rfl rfl ?_
    refine yA rfl rfl ?_
    refine yN ?_
    dsimp only [St.put]
    refine K20 _ ?_
    refine yS fun _ K21 => ?_
    refine yS fun _ K22 => ?_
    refine yR ?_
    refine yM rfl rfl ?_
    refine aops_n rfl (n_bool (c := false) (n_neq rfl rfl rfl) (not_dec_f rfl)) ?_
    refine yM rfl rfl ?_
    refine yM rfl rfl ?_
    refine aops_n rfl (n_bool (c := false) (n_neq rfl rfl rfl) (not_dec_f rfl)) ?_
    refine aops_n rfl (n_pf rfl rfl (by constructor)) ?_
    refine yN ?_
    dsimp only [St.put]
    refine K22 _ ?_
    refine aw_cond rfl (fun h => by cases h) (fun _ => ?_)
    refine aw_skip ?_
    refine K21 _ ?_
    refine yS fun _ K23 => ?_
    refine yR ?_
    refine yA rfl rfl ?_
    refine yA rfl rfl ?_
    refine yN ?_
    dsimp only [St.put]
    refine K23 _ ?_
    refine yS fun _ K24 => ?_
    refine yS fun _ K25 => ?_
    refine yR ?_
    refine yM rfl rfl ?_
    refine aops_n rfl (n_len' rfl rfl (List.length_map _)) ?_
    refine yM rfl rfl ?_
    refine yN ?_
    dsimp only [St.put]
    refine K25 _ ?_
    refine aw_block ?_
    refine aw_wipe 97 ?_
    simp only [firsts, getA, Nat.reduceAdd, List.getD_cons_zero, List.getD_cons_succ, List.getD_nil, natBeq, Nat.reduceBEq, cond_true, cond_false]
    refine aw_forget (G) zX ?_
    dsimp only
    refine aw_loopD (X := Nat × Bool) (fun y => y.1 ≤ l.length ∧ doubtB (l.take y.1) x = y.2) (fun y => l.length - y.1) (fun y => [(18, .v (.bool y.2)), (21, .any), (22, .any), (23, .any), (96, .v (.int .i64 (y.1 : Int)))]) (fun y G' => G') (0, false) rfl ?_ ?_ (fun _ _ h => h) ?_ ?_ ?_
    ·exact ⟨Nat.zero_le _, rfl⟩
    ·exact zF
    ·rintro ⟨k2, bb⟩ hI
     exact zL
    ·exact fun _ _ _ _ h => .inl h
    rintro ⟨k2, bb⟩ hJ
    dsimp only at hJ ⊢
    refine yS fun _ K26 => ?_
    refine yR ?_
    refine aops_n rfl (n_lss rfl rfl rfl) ?_
    refine yN ?_
    dsimp only [St.put]
    refine K26 _ ?_
    refine yS fun _ K27 => ?_
    refine aw_cond rfl (fun hc => ?_) (fun hc => ?_)
    ·replace hc := of_decide_eq_true hc
     obtain ⟨c2, hck2⟩ : ∃ c, l[k2]? = some c := some_of_lt (by omega)
     refine aw_skip ?_
     refine K27 _ ?_
     refine yS fun _ K28 => ?_
     refine aw_block ?_
     refine yS fun _ K29 => ?_
     refine yR ?_
     refine aops_n rfl (n_indexAddr rfl rfl rfl rfl (map_get (by assumption)) (Enc.len _)) ?_
     refine yE rfl rfl rfl ?_
     try dsimp only [St.put]
     refine aops_e rfl (e_allocC rfl ?_)
     try dsimp only [St.put]
     refine aops_e rfl (e_store_all rfl rfl rfl zG rfl rfl (by rfl) ?_)
     refine yN ?_
     dsimp only [St.put]
     refine K29 _ ?_
     refine aw_commitD (i := 21) rfl zG (by first | exact List.cons_ne_nil _ _ | (simp; done) | (simp [putAt]; done)) ?_
     dsimp only
     refine yS fun _ K30 => ?_
     refine yR ?_
     try dsimp only [St.put]
     refine aops_s rfl (s_load_agg' rfl rfl rfl) ?_
     refine yE rfl rfl rfl ?_
     refine yE rfl rfl rfl ?_
     try dsimp only [St.put]
     refine aops_e rfl (e_call_n rfl rfl rfl (lStands 0 t c2 ht (hcp c2 (mem_of_get hck2)) hxm) zG (by dsimp only [St.put]; omega) ?_)
     refine yM rfl rfl ?_
     refine yX rfl rfl rfl rfl ?_
     refine yX rfl rfl rfl rfl ?_
     refine yA rfl rfl ?_
     refine yA rfl rfl ?_
     refine yN ?_
     dsimp only [St.put]
     refine K30 _ ?_
     refine yS fun _ K31 => ?_
     refine yS fun _ K32 => ?_
     refine yR ?_
     refine yM rfl rfl ?_
     refine aops_n rfl (n_bool (c := false) (n_neq rfl rfl rfl) (not_dec_f rfl)) ?_
     refine yN ?_
     dsimp only [St.put]
     refine K32 _ ?_
     refine aw_cond rfl (fun h => by cases h) (fun _ => ?_)
     refine aw_skip ?_
     refine K31 _ ?_
     refine yR ?_
     refine yM rfl rfl ?_
     refine yM rfl rfl ?_
     refine aops_split (fun hs => ?_) (fun hs => ?_)
     ·have s2 := hs
      refine yK rfl ?_
      refine yK rfl ?_
      refine yK rfl ?_
      refine aops_n rfl (n_pt rfl rfl (by constructor)) ?_
      refine yA rfl rfl ?_
      refine yN ?_
      dsimp only [St.put]
      refine K28 _ ?_
      refine yR ?_
      refine aops_n rfl (n_add rfl rfl rfl (by omega)) ?_
      refine yM rfl rfl ?_
      refine yN ?_
      dsimp only [St.put]
      have hst := doubtB_step (x := x) hck2
      rw [hJ.2] at hst
      first
      | (have e1 : bb = true := s2
         rw [e1, Bool.true_or] at hst
         exact ⟨(k2 + 1, true), by (dsimp only; omega), ⟨by (dsimp only; omega), hst⟩, ⟨⟨rfl, rfl⟩, zF, zB, zN, zX⟩⟩)
      | (have e1 : bb = false := s2
         rw [e1, Bool.false_or] at hst
         exact ⟨(k2 + 1, !decide (standR c2.rs x.1 x.2 = x.2)), by (dsimp only; omega), ⟨by (dsimp only; omega), hst⟩, ⟨⟨rfl, rfl⟩, zF, zB, zN, zX⟩⟩)
     have s2 := hs
     refine yM rfl rfl ?_
     refine yM rfl rfl ?_
     refine aops_n rfl (n_strne rfl rfl rfl) ?_
     refine aops_n rfl (n_pf rfl rfl (by constructor)) ?_
     refine yA rfl rfl ?_
     refine yN ?_
     dsimp only [St.put]
     refine K28 _ ?_
     refine yR ?_
     refine aops_n rfl (n_add rfl rfl rfl (by omega)) ?_
     refine yM rfl rfl ?_
     refine yN ?_
     dsimp only [St.put]
     have hst := doubtB_step (x := x) hck2
     rw [hJ.2] at hst
     first
     | (have e1 : bb = true := s2
        rw [e1, Bool.true_or] at hst
        exact ⟨(k2 + 1, true), by (dsimp only; omega), ⟨by (dsimp only; omega), hst⟩, ⟨⟨rfl, rfl⟩, zF, zB, zN, zX⟩⟩)
     | (have e1 : bb = false := s2
        rw [e1, Bool.false_or] at hst
        exact ⟨(k2 + 1, !decide (standR c2.rs x.1 x.2 = x.2)), by (dsimp only; omega), ⟨by (dsimp only; omega), hst⟩, ⟨⟨rfl, rfl⟩, zF, zB, zN, zX⟩⟩)
    replace hc := of_decide_eq_false hc
    have hwant : doubtB l x = bb := by
     have := hJ.2
     rwa [take_all (show l.length ≤ k2 by omega)] at this
    refine aw_exit ?_
    refine K24 _ ?_
    refine yS fun _ K33 => ?_
    refine yS fun _ K34 => ?_
    refine yR ?_
    refine yM rfl rfl ?_
    refine aops_n rfl (n_len' rfl rfl (List.length_map _)) ?_
    refine yM rfl rfl ?_
    refine yN ?_
    dsimp only [St.put]
    refine K34 _ ?_
    refine aw_block ?_
    refine aw_wipe 119 ?_
    simp only [firsts, getA, Nat.reduceAdd, List.getD_cons_zero, List.getD_cons_succ, List.getD_nil, natBeq, Nat.reduceBEq, cond_true, cond_false]
    refine aw_forget (G) zX ?_
    dsimp only
    refine aw_loopD (X := Nat × Bool) (fun y => y.1 ≤ (doubtL (allP t) l).length ∧ decide (x.1 ∈ (doubtL (allP t) l).take y.1) = y.2) (fun y => (doubtL (allP t) l).length - y.1) (fun y => [(19, .v (.bool y.2)), (24, .any), (25, .any), (118, .v (.int .i64 (y.1 : Int)))]) (fun y G' => G') (0, false) rfl ?_ ?_ (fun _ _ h => h) ?_ ?_ ?_
    ·exact ⟨Nat.zero_le _, rfl⟩
    ·exact zF
    ·rintro ⟨m, b2⟩ hI
     exact zL
    ·exact fun _ _ _ _ h => .inl h
    rintro ⟨m, b2⟩ hM
    dsimp only at hM ⊢
    refine yS fun _ K35 => ?_
    refine yR ?_
    refine aops_n rfl (n_lss rfl rfl rfl) ?_
    refine yN ?_
    dsimp only [St.put]
    refine K35 _ ?_
    refine yS fun _ K36 => ?_
    refine aw_cond rfl (fun hc => ?_) (fun hc => ?_)
    ·replace hc := of_decide_eq_true hc
     obtain ⟨q, hq⟩ : ∃ q, (doubtL (allP t) l)[m]? = some q := some_of_lt (by omega)
     have hqB := doubtL_place (mem_of_get hq)
     refine aw_skip ?_
     refine K36 _ ?_
     refine yS fun _ K37 => ?_
     refine aw_block ?_
     refine yS fun _ K38 => ?_
     refine yR ?_
     refine yM rfl rfl ?_
     refine aops_n rfl (n_indexAddr rfl rfl rfl rfl (map_get (by assumption)) (Enc.len _)) ?_
     refine yE rfl rfl rfl ?_
     try dsimp only [St.put]
     refine aops_e rfl (e_allocC rfl ?_)
     refine yA rfl rfl ?_
     try dsimp only [St.put]
     refine aops_e rfl (e_store_all rfl rfl rfl zG rfl rfl (by rfl) ?_)
     refine yN ?_
     dsimp only [St.put]
     refine K38 _ ?_
     refine aw_commitD (i := 25) rfl zG (by first | exact List.cons_ne_nil _ _ | (simp; done) | (simp [putAt]; done)) ?_
     dsimp only
     refine yS fun _ K39 => ?_
     refine aw_wipe 119 ?_
     simp only [firsts, getA, Nat.reduceAdd, List.getD_cons_zero, List.getD_cons_succ, List.getD_nil, natBeq, Nat.reduceBEq, cond_true, cond_false]
     refine aw_cutD (X := Unit) (fun _ => True) (fun _ => [(140, .v (.bool false))]) (fun _ G' => G') rfl ?_ (fun _ _ _ _ h => .inl h) ?_ ?_
     ·rintro _ hI
      exact zL
     ·refine aw_drawT [(0, none), (1, none)] (fun _ => false) (fun i => [].contains i) 16 [true, true, false, false, false, false, false, false, false, false, false, false, false, false, false, false, false, false] (by kernel_rfl) (by kernel_rfl) ?_
      try dsimp only [St.put]
      refine acan1_s rfl rfl rfl rfl (s_load_agg' rfl rfl rfl) ?_
      try dsimp only [St.put]
      refine acan1_s rfl rfl rfl rfl (s_load_agg' rfl rfl (Enc.len _)) ?_
      refine acan1_nil ?_
      refine aany_step [2] (by kernel_rfl) (by simp) ?_
      refine aeach_cons ?_ ?_
      ·try dsimp only [St.put]
       refine aone_e rfl rfl rfl (e_call_pure rfl rfl rfl (lPlace t ht hqB) ?_)
       refine aany_quiet [(3, none), (4, none), (5, none), (6, none), (7, none), (8, none), (9, none), (10, none), (11, none), (12, none), (13, none)] (fun i => [3, 4, 5, 6, 7, 8, 9, 10, 11].contains i) 4 [true, true, true, true, true, true, true, true, true, true, true, true, true, true, false, false, false, false] (by kernel_rfl) ?_
       refine acan1_n rfl rfl rfl rfl (n_not rfl rfl) ?_
       refine xM rfl rfl rfl rfl rfl ?_
       refine xM rfl rfl rfl rfl rfl ?_
       refine acan1_n rfl rfl rfl rfl (n_gtr rfl rfl rfl) ?_
       refine acan1_split (fun hs => ?_) (fun hs => ?_)
       ·have s1 := of_decide_eq_true hs
        obtain ⟨q0, hq0⟩ : ∃ q0, (doubtL (allP t) l)[m - 1]? = some q0 := some_of_lt (by omega)
        have hbf := lBef (pw_prev hord (by omega) hq0 hq)
        refine xM rfl rfl rfl rfl rfl ?_
        refine xM rfl rfl rfl rfl rfl ?_
        refine xM rfl rfl rfl rfl rfl ?_
        refine acan1_n rfl rfl rfl rfl (n_sub rfl rfl rfl (by omega)) ?_
        try dsimp only [St.put]
        refine acan1_n rfl rfl rfl rfl (n_indexAddr (k := m - 1) rfl rfl rfl (by omega) (map_get hq0) (Enc.len _)) ?_
        try dsimp only [St.put]
        refine acan1_s rfl rfl rfl rfl (s_load_agg' rfl rfl (Enc.len _)) ?_
        try dsimp only [St.put]
        refine acan1_s rfl rfl rfl rfl (s_load_agg' rfl rfl (Enc.len _)) ?_
        refine acan1_nil ?_
        refine aany_step [14] (by kernel_rfl) (by simp) ?_
        refine aeach_cons ?_ ?_
        ·try dsimp only [St.put]
         refine aone_e rfl rfl rfl (e_call_pure rfl rfl rfl (hbf) ?_)
         refine aany_quiet [(15, none), (16, none), (17, none)] (fun i => [15, 16, 17].contains i) 0 [true, true, true, true, true, true, true, true, true, true, true, true, true, true, true, true, true, true] (by kernel_rfl) ?_
         refine acan1_n rfl rfl rfl rfl (n_not rfl rfl) ?_
         refine acan1_n rfl rfl rfl rfl (n_pt rfl rfl (by constructor)) ?_
         refine acan1_n rfl rfl rfl rfl (n_pf rfl rfl (by constructor)) ?_
         refine acan1_nil ?_
         dsimp only [St.put]
         refine aany_nil (by kernel_rfl) ?_
         exact ⟨(), trivial, ⟨⟨rfl, rfl⟩, zF, zB, zN, zX⟩⟩
        exact aeach_nil
       skip
       refine xM rfl rfl rfl rfl rfl ?_
       refine acan1_skip rfl rfl rfl ?_
       refine acan1_skip rfl rfl rfl ?_
       refine acan1_skip rfl rfl rfl ?_
       refine acan1_skip rfl rfl rfl ?_
       refine acan1_skip rfl rfl rfl ?_
       refine acan1_skip rfl rfl rfl ?_
       refine acan1_nil ?_
       refine aany_step [14] (by kernel_rfl) (by simp) ?_
       refine aeach_cons ?_ ?_
       ·refine aone_skip rfl rfl rfl ?_
        refine aany_quiet [(15, none), (16, none), (17, none)] (fun i => [15, 16, 17].contains i) 0 [true, true, true, true, true, true, true, true, true, true, true, true, true, true, true, true, true, true] (by kernel_rfl) ?_
        refine acan1_skip rfl rfl rfl ?_
        refine acan1_n rfl rfl rfl rfl (n_pf rfl rfl (by constructor)) ?_
        refine acan1_n rfl rfl rfl rfl (n_pf rfl rfl (by constructor)) ?_
        refine acan1_nil ?_
        dsimp only [St.put]
        refine aany_nil (by kernel_rfl) ?_
        exact ⟨(), trivial, ⟨⟨rfl, rfl⟩, zF, zB, zN, zX⟩⟩
       exact aeach_nil
      exact aeach_nil
     rintro _ hI
     dsimp only at hI ⊢
     refine aw_cond rfl (fun h => by cases h) (fun _ => ?_)
     refine aw_skip ?_
     refine K39 _ ?_
     refine yR ?_
     refine yM rfl rfl ?_
     refine yM rfl rfl ?_
     refine aops_split (fun hs => ?_) (fun hs => ?_)
     ·have s2 := hs
      refine yK rfl ?_
      refine yK rfl ?_
      refine yK rfl ?_
      refine aops_n rfl (n_pt rfl rfl (by constructor)) ?_
      refine yA rfl rfl ?_
      refine yN ?_
      dsimp only [St.put]
      refine K37 _ ?_
      refine yR ?_
      refine aops_n rfl (n_add rfl rfl rfl (by omega)) ?_
      refine yM rfl rfl ?_
      refine yN ?_
      dsimp only [St.put]
      have hst := mem_step (p := x.1) hq
      rw [hM.2] at hst
      first
      | (have e1 : b2 = true := s2
         rw [e1, Bool.true_or] at hst
         exact ⟨(m + 1, true), by (dsimp only; omega), ⟨by (dsimp only; omega), hst⟩, ⟨⟨rfl, rfl⟩, zF, zB, zN, zX⟩⟩)
      | (have e1 : b2 = false := s2
         rw [e1, Bool.false_or] at hst
         exact ⟨(m + 1, decide (q = x.1)), by (dsimp only; omega), ⟨by (dsimp only; omega), hst⟩, ⟨⟨rfl, rfl⟩, zF, zB, zN, zX⟩⟩)
     have s2 := hs
     refine yE rfl rfl rfl ?_
     refine yE rfl rfl rfl ?_
     refine aops_n rfl (n_agg_eql (x := q) (y := x.1) rfl rfl rfl) ?_
     refine aops_n rfl (n_pf rfl rfl (by constructor)) ?_
     refine yA rfl rfl ?_
     refine yN ?_
     dsimp only [St.put]
     refine K37 _ ?_
     refine yR ?_
     refine aops_n rfl (n_add rfl rfl rfl (by omega)) ?_
     refine yM rfl rfl ?_
     refine yN ?_
     dsimp only [St.put]
     have hst := mem_step (p := x.1) hq
     rw [hM.2] at hst
     first
     | (have e1 : b2 = true := s2
        rw [e1, Bool.true_or] at hst
        exact ⟨(m + 1, true), by (dsimp only; omega), ⟨by (dsimp only; omega), hst⟩, ⟨⟨rfl, rfl⟩, zF, zB, zN, zX⟩⟩)
     | (have e1 : b2 = false := s2
        rw [e1, Bool.false_or] at hst
        exact ⟨(m + 1, decide (q = x.1)), by (dsimp only; omega), ⟨by (dsimp only; omega), hst⟩, ⟨⟨rfl, rfl⟩, zF, zB, zN, zX⟩⟩)
    replace hc := of_decide_eq_false hc
    have htold : (b2 == bb) = true := by
     have h1 := hM.2
     rw [take_all (show (doubtL (allP t) l).length ≤ m by omega)] at h1
     rw [← h1, ← hwant, beq_iff_eq, Bool.eq_iff_iff, decide_eq_true_eq]
     exact doubtL_mem hxm
    refine aw_exit ?_
    refine K33 _ ?_
    refine yS fun _ K41 => ?_
    refine yR ?_
    refine yM rfl rfl ?_
    refine yM rfl rfl ?_
    refine yM rfl rfl ?_
    refine yM rfl rfl ?_
    refine aops_n rfl (n_beql rfl rfl rfl rfl) ?_
    refine aops_n rfl (n_pt rfl rfl (by constructor)) ?_
    refine yA rfl rfl ?_
    refine yN ?_
    dsimp only [St.put]
    refine K41 _ ?_
    refine aw_ret ?_
    refine ends_1 rfl (by constructor) zN zS ?_
    exact vb htold
   exact aeach_nil
  exact aeach_nil
 refine aeach_cons ?_ ?_
 ·try dsimp only [St.put]
  refine aone_e rfl rfl rfl (e_allocC rfl ?_)
  refine aany_step [5] (by kernel_rfl) (by simp) ?_
  refine aeach_cons ?_ ?_
  ·try dsimp only [St.put]
   refine aone_e rfl rfl rfl (e_call_pure rfl rfl rfl (lPlaceOf t ht hx) ?_)
   refine aany_quiet [(6, none), (7, none), (8, none)] (fun i => [6, 7, 8].contains i) 2 [true, true, true, true, true, true, true, true, true, true, false, false] (by kernel_rfl) ?_
   refine xM rfl rfl rfl rfl rfl ?_
   refine acan1_n rfl rfl rfl rfl (n_extract rfl rfl rfl) ?_
   refine acan1_n rfl rfl rfl rfl (n_extract rfl rfl rfl) ?_
   refine acan1_nil ?_
   refine aany_step [10] (by kernel_rfl) (by simp) ?_
   refine aeach_cons ?_ ?_
   ·try dsimp only [St.put]
    refine aone_e rfl rfl rfl (e_store_all rfl rfl rfl zG rfl rfl (by rfl) ?_)
    refine aany_quiet [(11, none)] (fun i => [11].contains i) 0 [true, true, true, true, true, true, true, true, true, true, true, true] (by kernel_rfl) ?_
    refine acan1_n rfl rfl rfl rfl (n_as rfl (by constructor)) ?_
    refine acan1_nil ?_
    dsimp only [St.put]
    refine aany_of_tr (tr_commit (i := 14) rfl zG (by first | exact List.cons_ne_nil _ _ | (simp; done) | (simp [putAt]; done))) ?_
    dsimp only
    refine aany_nil (by kernel_rfl) ?_
    refine K19 _ ?_
    refine yS fun _ K42 => ?_
    refine yR ?_
    try dsimp only [St.put]
    refine aops_s rfl (s_load_agg' rfl rfl rfl) ?_
    refine yE rfl rfl rfl ?_
    try dsimp only [St.put]
    refine aops_e rfl (e_call_pure rfl rfl rfl (lAt t ht hx) ?_)
    refine yM rfl rfl ?_
    refine yX rfl rfl rfl rfl ?_
    refine yX rfl rfl rfl rfl ?_
    refine yA rfl rfl ?_
    refine yA rfl rfl ?_
    refine yN ?_
    dsimp only [St.put]
    refine K42 _ ?_
    refine yS fun _ K43 => ?_
    refine yS fun _ K44 => ?_
    refine yR ?_
    refine yM rfl rfl ?_
    refine aops_n rfl (n_bool (c := false) (n_neq rfl rfl rfl) (not_dec_f rfl)) ?_
    refine yM rfl rfl ?_
    refine yM rfl rfl ?_
    refine aops_n rfl (n_bool (c := false) (n_neq rfl rfl rfl) (not_dec_f rfl)) ?_
    refine aops_n rfl (n_pf rfl rfl (by constructor)) ?_
    refine yN ?_
    dsimp only [St.put]
    refine K44 _ ?_
    refine aw_cond rfl (fun h => by cases h) (fun _ => ?_)
    refine aw_skip ?_
    refine K43 _ ?_
    refine yS fun _ K45 => ?_
    refine yR ?_
    refine yA rfl rfl ?_
    refine yA rfl rfl ?_
    refine yN ?_
    dsimp only [St.put]
    refine K45 _ ?_
    refine yS fun _ K46 => ?_
    refine yS fun _ K47 => ?_
    refine yR ?_
    refine yM rfl rfl ?_
    refine aops_n rfl (n_len' rfl rfl (List.length_map _)) ?_
    refine yM rfl rfl ?_
    refine yN ?_
    dsimp only [St.put]
    refine K47 _ ?_
    refine aw_block ?_
    refine aw_wipe 97 ?_
    simp only [firsts, getA, Nat.reduceAdd, List.getD_cons_zero, List.getD_cons_succ, List.getD_nil, natBeq, Nat.reduceBEq, cond_true, cond_false]
    refine aw_forget (G) zX ?_
    dsimp only
    refine aw_loopD (X := Nat × Bool) (fun y => y.1 ≤ l.length ∧ doubtB (l.take y.1) x = y.2) (fun y => l.length - y.1) (fun y => [(18, .v (.bool y.2)), (21, .any), (22, .any), (23, .any), (96, .v (.int .i64 (y.1 : Int)))]) (fun y G' => G') (0, false) rfl ?_ ?_ (fun _ _ h => h) ?_ ?_ ?_
    ·exact ⟨Nat.zero_le _, rfl⟩
    ·exact zF
    ·rintro ⟨k2, bb⟩ hI
     exact zL
    ·exact fun _ _ _ _ h => .inl h
    rintro ⟨k2, bb⟩ hJ
    dsimp only at hJ ⊢
    refine yS fun _ K48 => ?_
    refine yR ?_
    refine aops_n rfl (n_lss rfl rfl rfl) ?_
    refine yN ?_
    dsimp only [St.put]
    refine K48 _ ?_
    refine yS fun _ K49 => ?_
    refine aw_cond rfl (fun hc => ?_) (fun hc => ?_)
    ·replace hc := of_decide_eq_true hc
     obtain ⟨c2, hck2⟩ : ∃ c, l[k2]? = some c := some_of_lt (by omega)
     refine aw_skip ?_
     refine K49 _ ?_
     refine yS fun _ K50 => ?_
     refine aw_block ?_
     refine yS fun _ K51 => ?_
     refine yR ?_
     refine aops_n rfl (n_indexAddr rfl rfl rfl rfl (map_get (by assumption)) (Enc.len _)) ?_
     refine yE rfl rfl rfl ?_
     try dsimp only [St.put]
     refine aops_e rfl (e_allocC rfl ?_)
     try dsimp only [St.put]
     refine aops_e rfl (e_store_all rfl rfl rfl zG rfl rfl (by rfl) ?_)
     refine yN ?_
     dsimp only [St.put]
     refine K51 _ ?_
     refine aw_commitD (i := 21) rfl zG (by first | exact List.cons_ne_nil _ _ | (simp; done) | (simp [putAt]; done)) ?_
     dsimp only
     refine yS fun _ K52 => ?_
     refine yR ?_
     try dsimp only [St.put]
     refine aops_s rfl (s_load_agg' rfl rfl rfl) ?_
     refine yE rfl rfl rfl ?_
     refine yE rfl rfl rfl ?_
     try dsimp only [St.put]
     refine aops_e rfl (e_call_n rfl rfl rfl (lStands 0 t c2 ht (hcp c2 (mem_of_get hck2)) hxm) zG (by dsimp only [St.put]; omega) ?_)
     refine yM rfl rfl ?_
     refine yX rfl rfl rfl rfl ?_
     refine yX rfl rfl rfl rfl ?_
     refine yA rfl rfl ?_
     refine yA rfl rfl ?_
     refine yN ?_
     dsimp only [St.put]
     refine K52 _ ?_
     refine yS fun _ K53 => ?_
     refine yS fun _ K54 => ?_
     refine yR ?_
     refine yM rfl rfl ?_
     refine aops_n rfl (n_bool (c := false) (n_neq rfl rfl rfl) (not_dec_f rfl)) ?_
     refine yN ?_
     dsimp only [St.put]
     refine K54 _ ?_
     refine aw_cond rfl (fun h => by cases h) (fun _ => ?_)
     refine aw_skip ?_
     refine K53 _ ?_
     refine yR ?_
     refine yM rfl rfl ?_
     refine yM rfl rfl ?_
     refine aops_split (fun hs => ?_) (fun hs => ?_)
     ·have s2 := hs
      refine yK rfl ?_
      refine yK rfl ?_
      refine yK rfl ?_
      refine aops_n rfl (n_pt rfl rfl (by constructor)) ?_
      refine yA rfl rfl ?_
      refine yN ?_
      dsimp only [St.put]
      refine K50 _ ?_
      refine yR ?_
      refine aops_n rfl (n_add rfl rfl rfl (by omega)) ?_
      refine yM rfl rfl ?_
      refine yN ?_
      dsimp only [St.put]
      have hst := doubtB_step (x := x) hck2
      rw [hJ.2] at hst
      first
      | (have e1 : bb = true := s2
         rw [e1, Bool.true_or] at hst
         exact ⟨(k2 + 1, true), by (dsimp only; omega), ⟨by (dsimp only; omega), hst⟩, ⟨⟨rfl, rfl⟩, zF, zB, zN, zX⟩⟩)
      | (have e1 : bb = false := s2
         rw [e1, Bool.false_or] at hst
         exact ⟨(k2 + 1, !decide (standR c2.rs x.1 x.2 = x.2)), by (dsimp only; omega), ⟨by (dsimp only; omega), hst⟩, ⟨⟨rfl, rfl⟩, zF, zB, zN, zX⟩⟩)
     have s2 := hs
     refine yM rfl rfl ?_
     refine yM rfl rfl ?_
     refine aops_n rfl (n_strne rfl rfl rfl) ?_
     refine aops_n rfl (n_pf rfl rfl (by constructor)) ?_
     refine yA rfl rfl ?_
     refine yN ?_
     dsimp only [St.put]
     refine K50 _ ?_
     refine yR ?_
     refine aops_n rfl (n_add rfl rfl rfl (by omega)) ?_
     refine yM rfl rfl ?_
     refine yN ?_
     dsimp only [St.put]
     have hst := doubtB_step (x := x) hck2
     rw [hJ.2] at hst
     first
     | (have e1 : bb = true := s2
        rw [e1, Bool.true_or] at hst
        exact ⟨(k2 + 1, true), by (dsimp only; omega), ⟨by (dsimp only; omega), hst⟩, ⟨⟨rfl, rfl⟩, zF, zB, zN, zX⟩⟩)
     | (have e1 : bb = false := s2
        rw [e1, Bool.false_or] at hst
        exact ⟨(k2 + 1, !decide (standR c2.rs x.1 x.2 = x.2)), by (dsimp only; omega), ⟨by (dsimp only; omega), hst⟩, ⟨⟨rfl, rfl⟩, zF, zB, zN, zX⟩⟩)
    replace hc := of_decide_eq_false hc
    have hwant : doubtB l x = bb := by
     have := hJ.2
     rwa [take_all (show l.length ≤ k2 by omega)] at this
    refine aw_exit ?_
    refine K46 _ ?_
    refine yS fun _ K55 => ?_
    refine yS fun _ K56 => ?_
    refine yR ?_
    refine yM rfl rfl ?_
    refine aops_n rfl (n_len' rfl rfl (List.length_map _)) ?_
    refine yM rfl rfl ?_
    refine yN ?_
    dsimp only [St.put]
    refine K56 _ ?_
    refine aw_block ?_
    refine aw_wipe 119 ?_
    simp only [firsts, getA, Nat.reduceAdd, List.getD_cons_zero, List.getD_cons_succ, List.getD_nil, natBeq, Nat.reduceBEq, cond_true, cond_false]
    refine aw_forget (G) zX ?_
    dsimp only
    refine aw_loopD (X := Nat × Bool) (fun y => y.1 ≤ (doubtL (allP t) l).length ∧ decide (x.1 ∈ (doubtL (allP t) l).take y.1) = y.2) (fun y => (doubtL (allP t) l).length - y.1) (fun y => [(19, .v (.bool y.2)), (24, .any), (25, .any), (118, .v (.int .i64 (y.1 : Int)))]) (fun y G' => G') (0, false) rfl ?_ ?_ (fun _ _ h => h) ?_ ?_ ?_
    ·exact ⟨Nat.zero_le _, rfl⟩
    ·exact zF
    ·rintro ⟨m, b2⟩ hI
     exact zL
    ·exact fun _ _ _ _ h => .inl h
    rintro ⟨m, b2⟩ hM
    dsimp only at hM ⊢
    refine yS fun _ K57 => ?_
    refine yR ?_
    refine aops_n rfl (n_lss rfl rfl rfl) ?_
    refine yN ?_
    dsimp only [St.put]
    refine K57 _ ?_
    refine yS fun _ K58 => ?_
    refine aw_cond rfl (fun hc => ?_) (fun hc => ?_)
    ·replace hc := of_decide_eq_true hc
     obtain ⟨q, hq⟩ : ∃ q, (doubtL (allP t) l)[m]? = some q := some_of_lt (by omega)
     have hqB := doubtL_place (mem_of_get hq)
     refine aw_skip ?_
     refine K58 _ ?_
     refine yS fun _ K59 => ?_
     refine aw_block ?_
     refine yS fun _ K60 => ?_
     refine yR ?_
     refine yM rfl rfl ?_
     refine aops_n rfl (n_indexAddr rfl rfl rfl rfl (map_get (by assumption)) (Enc.len _)) ?_
     refine yE rfl rfl rfl ?_
     try dsimp only [St.put]
     refine aops_e rfl (e_allocC rfl ?_)
     refine yA rfl rfl ?_
     try dsimp only [St.put]
     refine aops_e rfl (e_store_all rfl rfl rfl zG rfl rfl (by rfl) ?_)
     refine yN ?_
     dsimp only [St.put]
     refine K60 _ ?_
     refine aw_commitD (i := 25) rfl zG (by first | exact List.cons_ne_nil _ _ | (simp; done) | (simp [putAt]; done)) ?_
     dsimp only
     refine yS fun _ K61 => ?_
     refine aw_wipe 119 ?_
     simp only [firsts, getA, Nat.reduceAdd, List.getD_cons_zero, List.getD_cons_succ, List.getD_nil, natBeq, Nat.reduceBEq, cond_true, cond_false]
     refine aw_cutD (X := Unit) (fun _ => True) (fun _ => [(140, .v (.bool false))]) (fun _ G' => G') rfl ?_ (fun _ _ _ _ h => .inl h) ?_ ?_
     ·rintro _ hI
      exact zL
     ·refine aw_drawT [(0, none), (1, none)] (fun _ => false) (fun i => [].contains i) 16 [true, true, false, false, false, false, false, false, false, false, false, false, false, false, false, false, false, false] (by kernel_rfl) (by kernel_rfl) ?_
      try dsimp only [St.put]
      refine acan1_s rfl rfl rfl rfl (s_load_agg' rfl rfl rfl) ?_
      try dsimp only [St.put]
      refine acan1_s rfl rfl rfl rfl (s_load_agg' rfl rfl (Enc.len _)) ?_
      refine acan1_nil ?_
      refine aany_step [2] (by kernel_rfl) (by simp) ?_
      refine aeach_cons ?_ ?_
      ·try dsimp only [St.put]
       refine aone_e rfl rfl rfl (e_call_pure rfl rfl rfl (lPlace t ht hqB) ?_)
       refine aany_quiet [(3, none), (4, none), (5, none), (6, none), (7, none), (8, none), (9, none), (10, none), (11, none), (12, none), (13, none)] (fun i => [3, 4, 5, 6, 7, 8, 9, 10, 11].contains i) 4 [true, true, true, true, true, true, true, true, true, true, true, true, true, true, false, false, false, false] (by kernel_rfl) ?_
       refine acan1_n rfl rfl rfl rfl (n_not rfl rfl) ?_
       refine xM rfl rfl rfl rfl rfl ?_
       refine xM rfl rfl rfl rfl rfl ?_
       refine acan1_n rfl rfl rfl rfl (n_gtr rfl rfl rfl) ?_
       refine acan1_split (fun hs => ?_) (fun hs => ?_)
       ·have s1 := of_decide_eq_true hs
        obtain ⟨q0, hq0⟩ : ∃ q0, (doubtL (allP t) l)[m - 1]? = some q0 := some_of_lt (by omega)
        have hbf := lBef (pw_prev hord (by omega) hq0 hq)
        refine xM rfl rfl rfl rfl rfl ?_
        refine xM rfl rfl rfl rfl rfl ?_
        refine xM rfl rfl rfl rfl rfl ?_
        refine acan1_n rfl rfl rfl rfl (n_sub rfl rfl rfl (by omega)) ?_
        try dsimp only [St.put]
        refine acan1_n rfl rfl rfl rfl (n_indexAddr (k := m - 1) rfl rfl rfl (by omega) (map_get hq0) (Enc.len _)) ?_
        try dsimp only [St.put]
        refine acan1_s rfl rfl rfl rfl (s_load_agg' rfl rfl (Enc.len _)) ?_
        try dsimp only [St.put]
        refine acan1_s rfl rfl rfl rfl (s_load_agg' rfl rfl (Enc.len _)) ?_
        refine acan1_nil ?_
        refine aany_step [14] (by kernel_rfl) (by simp) ?_
        refine aeach_cons ?_ ?_
        ·try dsimp only [St.put]
         refine aone_e rfl rfl rfl (e_call_pure rfl rfl rfl (hbf) ?_)
         refine aany_quiet [(15, none), (16, none), (17, none)] (fun i => [15, 16, 17].contains i) 0 [true, true, true, true, true, true, true, true, true, true, true, true, true, true, true, true, true, true] (by kernel_rfl) ?_
         refine acan1_n rfl rfl rfl rfl (n_not rfl rfl) ?_
         refine acan1_n rfl rfl rfl rfl (n_pt rfl rfl (by constructor)) ?_
         refine acan1_n rfl rfl rfl rfl (n_pf rfl rfl (by constructor)) ?_
         refine acan1_nil ?_
         dsimp only [St.put]
         refine aany_nil (by kernel_rfl) ?_
         exact ⟨(), trivial, ⟨⟨rfl, rfl⟩, zF, zB, zN, zX⟩⟩
        exact aeach_nil
       skip
       refine xM rfl rfl rfl rfl rfl ?_
       refine acan1_skip rfl rfl rfl ?_
       refine acan1_skip rfl rfl rfl ?_
       refine acan1_skip rfl rfl rfl ?_
       refine acan1_skip rfl rfl rfl ?_
       refine acan1_skip rfl rfl rfl ?_
       refine acan1_skip rfl rfl rfl ?_
       refine acan1_nil ?_
       refine aany_step [14] (by kernel_rfl) (by simp) ?_
       refine aeach_cons ?_ ?_
       ·refine aone_skip rfl rfl rfl ?_
        refine aany_quiet [(15, none), (16, none), (17, none)] (fun i => [15, 16, 17].contains i) 0 [true, true, true, true, true, true, true, true, true, true, true, true, true, true, true, true, true, true] (by kernel_rfl) ?_
        refine acan1_skip rfl rfl rfl ?_
        refine acan1_n rfl rfl rfl rfl (n_pf rfl rfl (by constructor)) ?_
        refine acan1_n rfl rfl rfl rfl (n_pf rfl rfl (by constructor)) ?_
        refine acan1_nil ?_
        dsimp only [St.put]
        refine aany_nil (by kernel_rfl) ?_
        exact ⟨(), trivial, ⟨⟨rfl, rfl⟩, zF, zB, zN, zX⟩⟩
       exact aeach_nil
      exact aeach_nil
     rintro _ hI
     dsimp only at hI ⊢
     refine aw_cond rfl (fun h => by cases h) (fun _ => ?_)
     refine aw_skip ?_
     refine K61 _ ?_
     refine yR ?_
     refine yM rfl rfl ?_
     refine yM rfl rfl ?_
     refine aops_split (fun hs => ?_) (fun hs => ?_)
     ·have s2 := hs
      refine yK rfl ?_
      refine yK rfl ?_
      refine yK rfl ?_
      refine aops_n rfl (n_pt rfl rfl (by constructor)) ?_
      refine yA rfl rfl ?_
      refine yN ?_
      dsimp only [St.put]
      refine K59 _ ?_
      refine yR ?_
      refine aops_n rfl (n_add rfl rfl rfl (by omega)) ?_
      refine yM rfl rfl ?_
      refine yN ?_
      dsimp only [St.put]
      have hst := mem_step (p := x.1) hq
      rw [hM.2] at hst
      first
      | (have e1 : b2 = true := s2
         rw [e1, Bool.true_or] at hst
         exact ⟨(m + 1, true), by (dsimp only; omega), ⟨by (dsimp only; omega), hst⟩, ⟨⟨rfl, rfl⟩, zF, zB, zN, zX⟩⟩)
      | (have e1 : b2 = false := s2
         rw [e1, Bool.false_or] at hst
         exact ⟨(m + 1, decide (q = x.1)), by (dsimp only; omega), ⟨by (dsimp only; omega), hst⟩, ⟨⟨rfl, rfl⟩, zF, zB, zN, zX⟩⟩)
     have s2 := hs
     refine yE rfl rfl rfl ?_
     refine yE rfl rfl rfl ?_
     refine aops_n rfl (n_agg_eql (x := q) (y := x.1) rfl rfl rfl) ?_
     refine aops_n rfl (n_pf rfl rfl (by constructor)) ?_
     refine yA rfl rfl ?_
     refine yN ?_
     dsimp only [St.put]
     refine K59 _ ?_
     refine yR ?_
     refine aops_n rfl (n_add rfl rfl rfl (by omega)) ?_
     refine yM rfl rfl ?_
     refine yN ?_
     dsimp only [St.put]
     have hst := mem_step (p := x.1) hq
     rw [hM.2] at hst
     first
     | (have e1 : b2 = true := s2
        rw [e1, Bool.true_or] at hst
        exact ⟨(m + 1, true), by (dsimp only; omega), ⟨by (dsimp only; omega), hst⟩, ⟨⟨rfl, rfl⟩, zF, zB, zN, zX⟩⟩)
     | (have e1 : b2 = false := s2
        rw [e1, Bool.false_or] at hst
        exact ⟨(m + 1, decide (q = x.1)), by (dsimp only; omega), ⟨by (dsimp only; omega), hst⟩, ⟨⟨rfl, rfl⟩, zF, zB, zN, zX⟩⟩)
    replace hc := of_decide_eq_false hc
    have htold : (b2 == bb) = true := by
     have h1 := hM.2
     rw [take_all (show (doubtL (allP t) l).length ≤ m by omega)] at h1
     rw [← h1, ← hwant, beq_iff_eq, Bool.eq_iff_iff, decide_eq_true_eq]
     exact doubtL_mem hxm
    refine aw_exit ?_
    refine K55 _ ?_
    refine yS fun _ K63 => ?_
    refine yR ?_
    refine yM rfl rfl ?_
    refine yM rfl rfl ?_
    refine yM rfl rfl ?_
    refine yM rfl rfl ?_
    refine aops_n rfl (n_beql rfl rfl rfl rfl) ?_
    refine aops_n rfl (n_pt rfl rfl (by constructor)) ?_
    refine yA rfl rfl ?_
    refine yN ?_
    dsimp only [St.put]
    refine K63 _ ?_
    refine aw_ret ?_
    refine ends_1 rfl (by constructor) zN zS ?_
    exact vb htold
   exact aeach_nil
  exact aeach_nil
 exact aeach_nil
end Go.Proofs.YtejhjijbgceklaaGreatDoor
