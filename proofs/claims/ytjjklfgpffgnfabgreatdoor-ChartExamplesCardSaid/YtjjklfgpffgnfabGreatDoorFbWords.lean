/-
 Contracts of the program's functions of charts: the words that are there; what is beside something.
-/
import Derived.Test.YtjjklfgpffgnfabGreatDoorEdLead
import Derived.Test.YtjjklfgpffgnfabGreatDoorFaNear
import Derived.Test.YtjjklfgpffgnfabGreatDoorCyPlain
namespace Go.AB
open Go Go.RowKit
open Go.AB.Enc (cells)
open Go.PB (Chap TextD PlaceD ReadingD CopyD WayD)
/-- What is owned is laid for good when the call ends. -/
theorem pc_commit_own {P : Program} {f : FuncId} {args : List C} {G : Nat → Option GObj} {nx m n ver wv len sz : Nat} {tt : TypeId} {α : Type} [Enc α] {xs : List α} (h : PC P f args G nx fun r G' nx' => r = .own n ver len ∧ G' = setG G n (.arr ver wv tt sz len (flatC xs)) ∧ nx' = m) (hn : nx ≤ n) (hsz : sz = Enc.n α) (hlen : len = xs.length)
  (hlow : ∀ m, (lst xs).low m) : PC P f args G nx fun r G' nx' => r = lst xs ∧ G' = G ∧ nx' = nx := by
 intro E w vs hr hg
 refine (h E w vs hr hg).mono ?_
 rintro e w' ⟨r', v, E', G', nx', e1, e2, e3, e4, rfl, rfl, rfl⟩
 obtain ⟨E2, hE, hg2, hl⟩ := own_commit_core e4 xs (setG_same _ _ _) hsz rfl hlen
 have hnx := hg.nx
 refine ⟨lst xs, v, E2.drop nx, G, nx, e1, (e2.trans hE).drop (by omega), (hl v e3).drop (hlow nx), ?_, rfl, rfl, rfl⟩
 refine (hg2.weak fun k o ho => ?_).drop fun k o ho => hg.lowG ho
 have := (hg.lowG ho).1
 rw [delG_other (by omega), setG_other (by omega)]
 exact ho
theorem findIdx_at {α : Type} {q : α → Bool} {l : List α} {k : Nat} {x : α} (hx : l[k]? = some x) (h : ∀ y ∈ l.take k, q y = false) (hq : q x = true) : l.findIdx q = k := by
 obtain ⟨h1, h2⟩ := List.getElem?_eq_some_iff.1 hx
 rw [List.findIdx_eq h1]
 exact ⟨by rw [h2]; exact hq, fun j hj => h _ (List.mem_of_getElem? (i := j) (by rw [List.getElem?_take_of_lt hj, List.getElem?_eq_getElem (by omega)]))⟩
theorem findIdx_no {α : Type} {q : α → Bool} {l : List α} {k : Nat} (hk : l.length ≤ k) (h : ∀ y ∈ l.take k, q y = false) : ¬ l.findIdx q < l.length := by
 rw [List.take_of_length_le hk] at h
 rw [List.findIdx_lt_length]
 rintro ⟨x, hx, hq⟩
 rw [h x hx] at hq
 cases hq
end Go.AB
namespace Go.Proofs.YtjjklfgpffgnfabGreatDoor
set_option maxRecDepth 10000
open Go.RowKit Go.AB
open Go.AB.Enc (cells)
open Go.PB (Chap TextD PlaceD ReadingD CopyD WayD)
theorem words_own (t : TextD) (e : EditionD) (f : L2 → Option L2) (n m V : Nat) (ht : textB t = true) (G : Nat → Option GObj) (nx : Nat) (hn : n < nx) (hm : m < nx) (hG : G n = some (gmap Tryz.prog 95 V (capp f))) :
  PC Tryz.prog 46 [.elem (bookC t e n m)] G nx fun r G' nx' => r = .own (nx + 1) (wordsF t f).length (wordsF t f).length ∧ G' = setG G (nx + 1) (.arr (wordsF t f).length 0 49 3 (wordsF t f).length (flatC (wordsF t f))) ∧ nx' = nx + 1 + 1 := by
 refine pc_named_of_body (setG G (nx + 1) (.arr (wordsF t f).length 0 49 3 (wordsF t f).length (flatC (wordsF t f)))) (nx + 1 + 1) Tryz.func46 rfl (.own (show nx + 1 < nx + 1 + 1 by omega)) zN (fun hlt => zH) ?_
 simp only [Tryz.ntmps46, List.length_cons, List.length_nil, Nat.reduceAdd, Nat.reduceSub]
 refine aw_lt fun hlt => ?_
 dsimp only at hlt
 refine yS fun _ K1 => ?_
 refine yR ?_
 try dsimp only [St.put]
 refine yB rfl rfl rfl ?_
 refine yA rfl rfl ?_
 refine yN ?_
 dsimp only [St.put]
 refine K1 _ ?_
 refine yS fun _ K2 => ?_
 refine yR ?_
 try dsimp only [St.put]
 refine aops_e rfl (e_allocC rfl ?_)
 refine yN ?_
 dsimp only [St.put]
 refine K2 _ ?_
 refine aw_adopt_own_box nx 0 _ _ 49 3 zG rfl (by decide) ?_
 dsimp only [List.set_cons_zero, List.set_cons_succ]
 refine yS fun _ K3 => ?_
 refine yS fun _ K4 => ?_
 refine yR ?_
 refine yL rfl rfl rfl ?_
 try dsimp only [St.put]
 refine aops_e rfl (e_call_one rfl rfl rfl (lines_pc t e _ _ _ _ (by dsimp only [St.put]; omega) (by dsimp only [St.put]; omega)) ?_)
 refine yN ?_
 dsimp only [St.put]
 refine K4 _ ?_
 refine aw_block ?_
 refine aw_wipe 11 ?_
 simp only [firsts, getA, Nat.reduceAdd, List.getD_cons_zero, List.getD_cons_succ, List.getD_nil, natBeq, Nat.reduceBEq, cond_true, cond_false]
 refine aw_forget ((setG (setG G nx (.box (([] : List PlaceD)).length [.own (nx + 1) (([] : List PlaceD)).length (([] : List PlaceD)).length])) (nx + 1) (.arr (([] : List PlaceD)).length 0 49 3 (([] : List PlaceD)).length (flatC (([] : List PlaceD)))))) zX ?_
 dsimp only
 refine aw_rangeFuncX (clL) [11, 12] (fun zs => (setG (setG G nx (.box ((wordsP t f (zs.map (·.1)))).length [.own (nx + 1) ((wordsP t f (zs.map (·.1)))).length ((wordsP t f (zs.map (·.1)))).length])) (nx + 1) (.arr ((wordsP t f (zs.map (·.1)))).length 0 49 3 ((wordsP t f (zs.map (·.1)))).length (flatC ((wordsP t f (zs.map (·.1)))))))) (fun _ _ (_ : Unit) => False) (fun _ => fun _ => none) (fun x => [(12, .v x.2), (11, .agg [.v (.int .i64 x.1.1), .v (.int .i64 x.1.2)])]) (lines_iter t e n m) rfl rfl (fun _ => rfl) (fun xs hX => hX.cl) ?_ ?_ ?_ (fun _ _ _ h => h.elim) (fun xs hX lr pre x hx hlen hpre => ?_) (fun _ _ _ _ _ _ h => h.elim) (fun xs hX => ?_)
 ·intro pre x
  rfl
 ·exact zX
 ·intro zs
  exact zH
 ·have hlen' := linesT_len ht
  rw [← hX.fst, List.length_map] at hlen'
  have hol := wordsP_len ht f (pre.map (·.1))
  rw [List.length_map] at hol
  obtain ⟨kk, nn, c, ws, ad, cap, hxe, hc, hl⟩ := hX.at' x hx
  have hw : wordsOf t x.1 = some ws := by rw [hxe]; exact wordsOf_get hc hl
  have hwl := words_bd ht hw
  obtain ⟨p, v⟩ := x
  simp only [Prod.mk.injEq] at hxe
  obtain ⟨hp, rfl⟩ := hxe
  dsimp only at hw hwl ⊢
  obtain ⟨W, hW⟩ : ∃ W, wordsP t f (pre.map (·.1)) = W := ⟨_, rfl⟩
  rw [hW] at hol ⊢
  have hsnoc : wordsP t f ((pre ++ [(p, Value.slice ad ws.length cap)]).map (·.1)) = W ++ lineW t f p := by rw [List.map_append, List.map_cons, List.map_nil, wordsP_snoc, hW]
  refine yS fun _ K5 => ?_
  refine yR ?_
  try dsimp only [St.put]
  refine aops_e rfl (e_allocC rfl ?_)
  try dsimp only [St.put]
  refine aops_e rfl (e_store_all rfl rfl rfl zG rfl rfl (by rfl) ?_)
  refine yN ?_
  dsimp only [St.put]
  refine K5 _ ?_
  refine aw_commitD (i := 4) rfl zG (by first | exact List.cons_ne_nil _ _ | (simp; done) | (simp [putAt]; done)) ?_
  dsimp only
  refine yR ?_
  refine yA rfl rfl ?_
  refine yN ?_
  dsimp only [St.put]
  show AW _ _ _ _ _
  refine aw_block ?_
  refine yS fun _ K6 => ?_
  refine yS fun _ K7 => ?_
  obtain ⟨v1, hv1⟩ : ∃ v : L2, (capp f p).getD (constC (.agg #[.int .i64 0, .int .i64 0])) = .agg [.v (.int .i64 v.1), .v (.int .i64 v.2)] := capp_get _ _
  obtain ⟨b1, hb1⟩ : ∃ b, (capp f p).isSome = b := ⟨_, rfl⟩
  have hb2 : (f p).isSome = b1 := by rw [← hb1]; simp [capp]
  refine aw_draw [(0, none), (1, none), (2, none), (3, none), (4, none), (5, none), (6, none), (7, none), (8, none), (9, none), (10, none), (11, none)] (fun i => [10].contains i) (fun i => [9, 10].contains i) (fun i => [1, 2, 6, 7, 8, 11].contains i) [n] (by kernel_rfl) (by kernel_rfl) ?_
  try dsimp only [St.put]
  refine acan1_s rfl rfl rfl rfl (s_load rfl rfl) ?_
  refine acan1_n rfl rfl rfl rfl (n_nilCheck rfl rfl) ?_
  refine acan1_n rfl rfl rfl rfl (n_fieldAddr' rfl rfl rfl) ?_
  try dsimp only [St.put]
  refine acan1_s rfl rfl rfl rfl (s_load rfl rfl) ?_
  try dsimp only [St.put]
  refine acan1_s rfl rfl rfl rfl (s_load_agg' rfl rfl rfl) ?_
  try dsimp only [St.put]
  refine acan1_s rfl rfl rfl rfl (s_lookupOk' p rfl rfl zG (by simp) rfl hv1 hb1) ?_
  refine xM rfl rfl rfl rfl rfl ?_
  refine acan1_n rfl rfl rfl rfl (n_extract rfl rfl rfl) ?_
  refine acan1_n rfl rfl rfl rfl (n_extract rfl rfl rfl) ?_
  refine acan1_two ?_
  try dsimp only [St.put]
  refine acan2_e rfl rfl rfl (e_allocC rfl ⟨zD, ?_⟩)
  try dsimp only [St.put]
  refine acan2_late rfl rfl rfl rfl (e_store_all rfl rfl rfl zG rfl rfl (by rfl) ?_)
  refine acan2_n rfl rfl rfl rfl (n_as rfl (by constructor)) ?_
  refine acan2_nil ?_
  dsimp only [St.put]
  refine K7 _ ?_
  refine aw_commitD (i := 6) rfl zG (by first | exact List.cons_ne_nil _ _ | (simp; done) | (simp [putAt]; done)) ?_
  dsimp only
  refine yS fun _ K8 => ?_
  refine yR ?_
  refine yM rfl rfl ?_
  refine aops_n rfl (n_not rfl rfl) ?_
  refine yN ?_
  dsimp only [St.put]
  refine K8 _ ?_
  refine aw_cond rfl (fun hc => ?_) (fun hc => ?_)
  ·have hno : f p = none := by
    have : b1 = false := by simpa using hc
    rw [this] at hb2
    simpa using hb2
   have hfin : lineW t f p = [] := by simp [lineW, hno]
   refine aw_exit ?_
   unfold ABlock RPost
   dsimp only
   rw [hsnoc]
   rw [hfin]
   first
   | (rw [List.append_nil]
      exact zX)
   | exact zX
  have hys : (f p).isSome = true := by
   have : b1 = true := by simpa using hc
   rw [this] at hb2
   exact hb2
  refine aw_skip ?_
  refine K6 _ ?_
  refine yS fun _ K9 => ?_
  refine yR ?_
  refine yM rfl rfl ?_
  refine aops_n rfl (n_len_v rfl rfl (by omega)) ?_
  refine yM rfl rfl ?_
  refine yN ?_
  dsimp only [St.put]
  rw [show W = W ++ lineN p 0 from (List.append_nil _).symm]
  refine K9 _ ?_
  refine aw_block ?_
  refine aw_wipe 27 ?_
  simp only [firsts, getA, Nat.reduceAdd, List.getD_cons_zero, List.getD_cons_succ, List.getD_nil, natBeq, Nat.reduceBEq, cond_true, cond_false]
  refine aw_forget ((setG (setG G nx (.box ((W ++ lineN p 0)).length [.own (nx + 1) ((W ++ lineN p 0)).length ((W ++ lineN p 0)).length])) (nx + 1) (.arr ((W ++ lineN p 0)).length 0 49 3 ((W ++ lineN p 0)).length (flatC ((W ++ lineN p 0)))))) zX ?_
  dsimp only
  refine aw_loopD (X := Nat) (fun k => k ≤ ws.length) (fun k => ws.length - k) (fun k => [(8, .any), (26, .v (.int .i64 (k : Int)))]) (fun k G' => (setG (setG G nx (.box ((W ++ lineN p k)).length [.own (nx + 1) ((W ++ lineN p k)).length ((W ++ lineN p k)).length])) (nx + 1) (.arr ((W ++ lineN p k)).length 0 49 3 ((W ++ lineN p k)).length (flatC ((W ++ lineN p k)))))) 0 rfl ?_ ?_ ?_ ?_ ?_ ?_
  ·exact Nat.zero_le _
  ·exact zF
  ·exact zX
  ·rintro k hI
   exact zL
  ·rintro k hI
   exact zH
  rintro k hJ
  dsimp only at hJ ⊢
  refine yS fun _ K10 => ?_
  refine yR ?_
  refine aops_n rfl (n_lss rfl rfl rfl) ?_
  refine yN ?_
  dsimp only [St.put]
  refine K10 _ ?_
  refine yS fun _ K11 => ?_
  refine aw_cond rfl (fun hc => ?_) (fun hc => ?_)
  ·replace hc := of_decide_eq_true hc
   refine aw_skip ?_
   refine K11 _ ?_
   refine yS fun _ K12 => ?_
   refine aw_block ?_
   refine yS fun _ K13 => ?_
   refine yR ?_
   refine yM rfl rfl ?_
   refine yA rfl rfl ?_
   refine yN ?_
   dsimp only [St.put]
   refine K13 _ ?_
   refine yR ?_
   try dsimp only [St.put]
   refine aops_s rfl (s_load_box rfl rfl zG trivial (by first | rfl | assumption)) ?_
   try dsimp only [St.put]
   refine aops_n rfl (n_indexAddr_aelem (k := 0) rfl rfl rfl (by first | exact rfl | omega) (by first | decide | omega) rfl) ?_
   refine yL rfl rfl rfl ?_
   try dsimp only [St.put]
   refine aops_n rfl (n_indexAddr_aelem (k := 1) rfl rfl rfl (by first | exact rfl | omega) (by first | decide | omega) rfl) ?_
   refine yL rfl rfl rfl ?_
   refine yM rfl rfl ?_
   refine aops_n rfl (n_build rfl rfl) ?_
   try dsimp only [St.put]
   refine aops_e rfl (e_buildSlice rfl rfl rfl (by decide) (by decide) zR (by decide) ?_)
   try dsimp only [St.put]
   refine aops_e rfl (e_append_own (⟨p.1, p.2, (k : Int)⟩ : PlaceD) rfl rfl zG rfl rfl rfl rfl (by simp only [List.length_append, lineN_len]; omega) ?_ (by simp only [List.length_append, lineN_len]; omega))
   try dsimp only [St.put]
   refine aops_e rfl (e_store_all rfl rfl rfl zG rfl rfl (by rfl) ?_)
   refine yN ?_
   dsimp only [St.put]
   refine K12 _ ?_
   refine yR ?_
   refine aops_n rfl (n_add rfl rfl rfl (by omega)) ?_
   refine yM rfl rfl ?_
   refine yN ?_
   dsimp only [St.put]
   rw [List.append_assoc, ← lineN_succ, show (W ++ lineN p k).length + 1 = (W ++ lineN p (k + 1)).length by simp only [List.length_append, lineN_len]; omega]
   exact ⟨k + 1, by omega, by omega, ⟨⟨rfl, rfl⟩, zF, zB, zN, zX⟩⟩
  replace hc := of_decide_eq_false hc
  have hfin : lineW t f p = lineN p k := by
   have hk : k = ws.length := by omega
   rw [hk]; simp [lineW, hys, hw]
  refine aw_exit ?_
  unfold ABlock RPost
  dsimp only
  rw [hsnoc]
  rw [hfin]
  first
  | (rw [List.append_nil]
     exact zX)
  | exact zX
 dsimp only
 rw [hX.fst]
 refine K3 _ ?_
 refine yS fun _ K14 => ?_
 refine yR ?_
 try dsimp only [St.put]
 refine aops_s rfl (s_load_box rfl rfl zG trivial (by first | rfl | assumption)) ?_
 refine yA rfl rfl ?_
 refine yN ?_
 dsimp only [St.put]
 refine K14 _ ?_
 refine aw_ret ?_
 refine ends_v1 rfl (rv_tmp (by constructor)) zN zX ?_
 exact zW
theorem words_lst (t : TextD) (e : EditionD) (f : L2 → Option L2) (n m V : Nat) (ht : textB t = true) (G : Nat → Option GObj) (nx : Nat) (hn : n < nx) (hm : m < nx) (hG : G n = some (gmap Tryz.prog 95 V (capp f))) :
  PC Tryz.prog 46 [.elem (bookC t e n m)] G nx fun r G' nx' => r = lst (wordsF t f) ∧ G' = G ∧ nx' = nx :=
 pc_commit_own (words_own t e f n m V ht G nx hn hm hG) (by omega) rfl rfl (fun _ => lst_low _ _)
/-! ### What is beside something -/
theorem beside1_pc (p : PlaceD) (x : Int) (g : Nat) (caps : List C) [Fun Tryz.prog g] (G : Nat → Option GObj) (nx : Nat) (hg : PC Tryz.prog g (.agg (cells p) :: caps) G nx fun r G' nx' => r = .v (.int .i64 x) ∧ G' = G ∧ nx' = nx) :
  PC Tryz.prog 80 [val p, .elem [.fn (.func g) caps]] G nx fun r G' nx' => r = .v (.bool (decide (0 < x))) ∧ G' = G ∧ nx' = nx := by
 refine pc_named_of_body (G) (nx) Tryz.func80 rfl (.v) zN (fun hlt => zH) ?_
 simp only [Tryz.ntmps80, List.length_cons, List.length_nil, Nat.reduceAdd, Nat.reduceSub]
 refine aw_lt fun hlt => ?_
 dsimp only at hlt
 refine yS fun _ K1 => ?_
 refine yR ?_
 try dsimp only [St.put]
 refine yB rfl rfl rfl ?_
 refine yA rfl rfl ?_
 refine yN ?_
 dsimp only [St.put]
 refine K1 _ ?_
 refine yS fun _ K2 => ?_
 refine yR ?_
 refine yL rfl rfl rfl ?_
 refine yE rfl rfl rfl ?_
 try dsimp only [St.put]
 refine aops_e rfl (e_call_one rfl rfl rfl hg ?_)
 refine aops_n rfl (n_gtr rfl rfl rfl) ?_
 refine yA rfl rfl ?_
 refine yN ?_
 dsimp only [St.put]
 refine K2 _ ?_
 refine aw_ret ?_
 refine ends_1 rfl (by constructor) zN zS ?_
 rfl
theorem indexFunc_pc (l : List PlaceD) (q : PlaceD → Bool) (g : Nat) (caps : List C) [Fun Tryz.prog g] (G : Nat → Option GObj) (nx : Nat) (hl : l.length ≤ 1000) (hcaps : ∀ c ∈ caps, c.low nx) (hg : ∀ p ∈ l, PC Tryz.prog g (val p :: caps) G nx fun r G' nx' => r = .v (.bool (q p)) ∧ G' = G ∧ nx' = nx) :
  PC Tryz.prog 79 [lst l, .fn (.func g) caps] G nx fun r G' nx' => r = .v (.int .i64 (if l.findIdx q < l.length then (l.findIdx q : Int) else -1)) ∧ G' = G ∧ nx' = nx := by
 refine pc_named_of_body (G) (nx) Tryz.func79 rfl (.v) zN (fun hlt => zH) ?_
 simp only [Tryz.ntmps79, List.length_cons, List.length_nil, Nat.reduceAdd, Nat.reduceSub]
 refine aw_lt fun hlt => ?_
 dsimp only at hlt
 refine yS fun _ K1 => ?_
 refine yR ?_
 refine yA rfl rfl ?_
 refine yN ?_
 dsimp only [St.put]
 refine K1 _ ?_
 refine yS fun _ K2 => ?_
 refine yS fun _ K3 => ?_
 refine yR ?_
 refine yM rfl rfl ?_
 refine aops_n rfl (n_len' rfl rfl (List.length_map _)) ?_
 refine yM rfl rfl ?_
 refine yN ?_
 dsimp only [St.put]
 refine K3 _ ?_
 refine aw_block ?_
 refine aw_wipe 9 ?_
 simp only [firsts, getA, Nat.reduceAdd, List.getD_cons_zero, List.getD_cons_succ, List.getD_nil, natBeq, Nat.reduceBEq, cond_true, cond_false]
 refine aw_forget (G) zX ?_
 dsimp only
 refine aw_loopD (X := Nat) (fun k => k ≤ l.length ∧ ∀ y ∈ l.take k, q y = false) (fun k => l.length - k) (fun k => [(5, .any), (8, .v (.int .i64 (k : Int)))]) (fun k G' => G') 0 rfl ?_ ?_ (fun _ _ h => h) ?_ ?_ ?_
 ·exact ⟨Nat.zero_le _, fun y hy => by simp at hy⟩
 ·exact zF
 ·rintro k hI
  exact zL
 ·exact fun _ _ _ _ h => .inl h
 rintro k hI
 dsimp only at hI ⊢
 refine yS fun _ K4 => ?_
 refine yR ?_
 refine aops_n rfl (n_lss rfl rfl rfl) ?_
 refine yN ?_
 dsimp only [St.put]
 refine K4 _ ?_
 refine yS fun _ K5 => ?_
 refine aw_cond rfl (fun hc => ?_) (fun hc => ?_)
 ·replace hc := of_decide_eq_true hc
  obtain ⟨x, hx⟩ : ∃ x, l[k]? = some x := some_of_lt (by omega)
  refine aw_skip ?_
  refine K5 _ ?_
  refine yS fun _ K6 => ?_
  refine aw_block ?_
  refine yS fun _ K7 => ?_
  refine yR ?_
  refine yM rfl rfl ?_
  refine yA rfl rfl ?_
  refine yN ?_
  dsimp only [St.put]
  refine K7 _ ?_
  refine yS fun _ K8 => ?_
  refine yR ?_
  refine yM rfl rfl ?_
  refine yM rfl rfl ?_
  refine yM rfl rfl ?_
  refine aops_n rfl (n_indexAddr rfl rfl rfl rfl (map_get (by assumption)) (Enc.len _)) ?_
  refine yE rfl rfl rfl ?_
  try dsimp only [St.put]
  refine aops_e rfl (e_call_one rfl rfl rfl (hg x (mem_of_get hx)) ?_)
  refine yN ?_
  dsimp only [St.put]
  refine K8 _ ?_
  refine aw_cond rfl (fun hc => ?_) (fun hc => ?_)
  ·have hfi : l.findIdx q = k := findIdx_at hx hI.2 hc
   refine yS fun _ K9 => ?_
   refine yR ?_
   refine yM rfl rfl ?_
   refine yA rfl rfl ?_
   refine yN ?_
   dsimp only [St.put]
   refine K9 _ ?_
   refine aw_ret ?_
   refine ends_1 rfl (by constructor) zN zS ?_
   exact vi (by rw [hfi, if_pos (by omega)])
  skip
  refine aw_skip ?_
  refine K6 _ ?_
  refine yR ?_
  refine aops_n rfl (n_add rfl rfl rfl (by omega)) ?_
  refine yM rfl rfl ?_
  refine yN ?_
  dsimp only [St.put]
  exact ⟨k + 1, by omega, ⟨by omega, take_no hx hI.2 hc⟩, ⟨⟨rfl, rfl⟩, zF, zB, zN, zX⟩⟩
 replace hc := of_decide_eq_false hc
 have hfi : ¬ l.findIdx q < l.length := findIdx_no (by omega) hI.2
 refine aw_exit ?_
 refine K2 _ ?_
 refine yS fun _ K10 => ?_
 refine yR ?_
 refine yA rfl rfl ?_
 refine yN ?_
 dsimp only [St.put]
 refine K10 _ ?_
 refine aw_ret ?_
 refine ends_1 rfl (by constructor) zN zS ?_
 exact vi (by rw [if_neg hfi])
end Go.Proofs.YtjjklfgpffgnfabGreatDoor
