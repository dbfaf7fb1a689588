/-
 Contracts of the program's functions of charts: the places of the nearest references.
-/
import Derived.Test.YtjjklfgpffgnfabGreatDoorFdNear
import Derived.Test.YtjjklfgpffgnfabGreatDoorEeTurn
namespace Go.AB
open Go Go.RowKit
open Go.AB.Enc (cells)
open Go.PB (Chap TextD PlaceD ReadingD CopyD WayD)
def keyR (r : RefD) : List Int := [r.ch, r.ln, r.wd]
/-- the numbers of a place's reference -/
def keyF (f : L2 → Option L2) (q : PlaceD) : List Int := keyR (rfV f q)
theorem keyF_some {f : L2 → Option L2} {q : PlaceD} {v : L2} (h : f (q.ch, q.ln) = some v) : keyF f q = [v.1, v.2, q.wd + 1] := by simp [keyF, rfV, h, keyR]
theorem keyF_ok {t : TextD} {ss : List StretchD} (hS : Sound t ss) : KeyOk (wordsF t (asOf ss)) (keyF (asOf ss)) 3 := ⟨fun _ _ => rfl, fun a ha b hb h => by
 obtain ⟨v, hv⟩ := Option.isSome_iff_exists.1 (mem_words.1 ha).2
 obtain ⟨u, hu⟩ := Option.isSome_iff_exists.1 (mem_words.1 hb).2
 rw [keyF_some hv, keyF_some hu] at h
 simp only [List.cons.injEq, and_true] at h
 have hvu : v = u := Prod.ext h.1 h.2.1
 subst hvu
 have h1 := (back_iff hS.no).2 hv
 have h2 := (back_iff hS.no).2 hu
 rw [h1] at h2
 have h3 := Option.some.inj h2
 simp only [Prod.mk.injEq] at h3
 obtain ⟨a1, a2, a3⟩ := a
 obtain ⟨b1, b2, b3⟩ := b
 simp only [PlaceD.mk.injEq]
 simp only at h3 h
 omega⟩
noncomputable def closeL (t : TextD) (ss : List StretchD) (r : RefD) : List PlaceD := match leadO t ss r with
 | some p => [p]
 | none => nearS (wordsF t (asOf ss)) (keyF (asOf ss)) (keyR r)
noncomputable def closeEr (t : TextD) (e : EditionD) (r : RefD) : Int := bif decide (soundEr t e = 0) then (bif refB r then (bif decide (closeL t e.ss r = []) then 6 else 0) else 2) else soundEr t e
noncomputable def closeV (t : TextD) (e : EditionD) (r : RefD) : List PlaceD := bif decide (closeEr t e r = 0) then closeL t e.ss r else []
theorem close_words {t : TextD} {ss : List StretchD} (hS : Sound t ss) {r : RefD} (hr : refB r = true) (hno : leadO t ss r = none) : ∀ y ∈ wordsF t (asOf ss), keyF (asOf ss) y ≠ keyR r := fun y hy e => by
 obtain ⟨h1, h2⟩ := mem_words.1 hy
 obtain ⟨v, hv⟩ := Option.isSome_iff_exists.1 h2
 rw [keyF_some hv] at e
 simp only [keyR, List.cons.injEq, and_true] at e
 obtain ⟨e1, e2, e3⟩ := e
 obtain ⟨l, hw, hw1, hw2⟩ := placeB_true.1 h1
 have hb := (back_iff hS.no).2 hv
 rw [show v = (r.ch, r.ln) from Prod.ext e1 e2] at hb
 unfold leadO at hno
 rw [hb] at hno
 simp only [hw, Option.getD_some] at hno
 rw [decide_eq_false (show ¬ (l.length : Int) < r.wd by omega)] at hno
 cases hno
theorem sort_keys {S : List PlaceD} {key : PlaceD → List Int} {n : Nat} (hk : KeyOk S key n) {ys : List PlaceD} (hp : ys.Perm S) (hs : ys.Pairwise fun a b => ¬ cmpL (key b) (key a) < 0) (hn : S.Nodup) : ys.Pairwise fun a b => ltW (key a) (key b) := by
 have h1 : ys.Pairwise fun a b => ¬ cmpL (key b) (key a) < 0 ∧ a ≠ b := List.pairwise_and_iff.2 ⟨hs, hp.nodup_iff.2 hn⟩
 refine List.Pairwise.imp_of_mem (fun {a b} ha hb ⟨h2, h3⟩ => ?_) h1
 have ha' := hp.mem_iff.1 ha
 have hb' := hp.mem_iff.1 hb
 rw [cmpL_lt ((hk.len b hb').trans (hk.len a ha').symm)] at h2
 exact Classical.byContradiction fun h4 => h3 (hk.inj a ha' b hb' (ltW_tri ((hk.len a ha').trans (hk.len b hb').symm) h4 h2))
theorem words_nodup (t : TextD) (f : L2 → Option L2) : (wordsF t f).Nodup :=
 (words_sorted t f).imp fun {a b} h e => by subst e; exact ltW_irr _ h
theorem close_beside {t : TextD} {ss : List StretchD} (hS : Sound t ss) {r : RefD} (hr : refB r = true) (hno : leadO t ss r = none) {ys : List PlaceD} (hp : ys.Perm (wordsF t (asOf ss))) (hs : ys.Pairwise fun a b => ¬ cmpL (keyF (asOf ss) b) (keyF (asOf ss) a) < 0) :
  besideL ys (cutL ys fun q => cmpL (keyF (asOf ss) q) (keyR r)) = closeL t ss r := by
 have h1 := cutL_near (l := ys) (key := keyF (asOf ss)) (x := keyR r) (n := 3) rfl (fun _ _ => rfl) (sort_keys (keyF_ok hS) hp hs (words_nodup _ _)) fun y hy => close_words hS hr hno y (hp.mem_iff.1 hy)
 unfold closeL
 rw [hno]
 exact (nearS_eq (keyF_ok hS) (h1.congr fun y => hp.mem_iff)).symm
def PBdP (q : PlaceD) : Prop := (0 ≤ q.ch ∧ q.ch ≤ 100000) ∧ (0 ≤ q.ln ∧ q.ln ≤ 100000) ∧ 0 ≤ q.wd ∧ q.wd ≤ 100000
theorem PBdP.plain {a : PlaceD} (h : PBdP a) : Plain (cells a) := fun c hc => by
 obtain ⟨h1, h2, h3⟩ := h
 have hc' : c ∈ [C.v (.int .i64 a.ch), C.v (.int .i64 a.ln), C.v (.int .i64 a.wd)] := hc
 simp only [List.mem_cons, List.not_mem_nil, or_false] at hc'
 rcases hc' with rfl | rfl | rfl
 ·exact ⟨_, rfl, okV_i64 (by omega)⟩
 ·exact ⟨_, rfl, okV_i64 (by omega)⟩
 exact ⟨_, rfl, okV_i64 (by omega)⟩
theorem words_place {t : TextD} (ht : textB t = true) {f : L2 → Option L2} {q : PlaceD} (h : q ∈ wordsF t f) : PBdP q := by
 obtain ⟨l, hw, hw1, hw2⟩ := placeB_true.1 (mem_words.1 h).1
 have := words_bd ht hw
 exact ⟨by omega, by omega, by omega, by omega⟩
theorem keyF_ord {p : PlaceD → Prop} (f : L2 → Option L2) : Ord3 p fun a b => cmpL (keyF f a) (keyF f b) := by
 have key : ∀ a b, cmpL (keyF f a) (keyF f b) < 0 ↔ ltW (keyF f a) (keyF f b) := fun a b => cmpL_lt rfl
 refine ⟨fun x _ => ?_, fun x y z _ _ _ h k => ?_, fun x y z _ _ _ h k => ?_⟩
 ·rw [key]; exact ltW_irr _
 ·rw [key] at h k ⊢; exact ltW_trans h k
 rw [key] at h k ⊢
 intro hxz
 by_cases h1 : ltW (keyF f y) (keyF f x)
 ·exact k (ltW_trans h1 hxz)
 rw [ltW_tri (a := keyF f x) (b := keyF f y) rfl h h1] at hxz; exact k hxz
end Go.AB
namespace Go.Proofs.YtjjklfgpffgnfabGreatDoor
set_option maxRecDepth 10000
open Go.RowKit Go.AB
open Go.AB.Enc (cells)
open Go.PB (Chap TextD PlaceD ReadingD CopyD WayD)
instance : Ty Tryz.prog (srt_Place_ren.t 24) true (Enc.n PlaceD) := inferInstanceAs (Ty Tryz.prog 49 true 3)
theorem order_pure (a b : RefD) : Pure Tryz.prog 49 [val a, val b] (.v (.int .i64 (cmpL (keyR a) (keyR b)))) := by
 refine pure_of_body Tryz.func49 rfl (fun m => .v) fun G nx => ?_
 simp only [Tryz.ntmps49, List.length_cons, List.length_nil, Nat.reduceAdd, Nat.reduceSub]
 refine aw_lt fun hlt => ?_
 dsimp only at hlt
 refine yS fun _ K1 => ?_
 refine yR ?_
 try dsimp only [St.put]
 refine yB rfl rfl rfl ?_
 try dsimp only [St.put]
 refine yB rfl rfl rfl ?_
 refine yA rfl rfl ?_
 refine yN ?_
 dsimp only [St.put]
 refine K1 _ ?_
 refine yS fun _ K2 => ?_
 refine aw_draw [(0, none), (1, none), (2, none), (3, none), (4, none), (5, none), (6, none), (7, none), (8, none), (9, none), (10, none), (11, none), (12, none), (13, none), (14, some 15), (16, none), (17, none)] (fun i => [17].contains i) (fun i => [14, 15, 16, 17].contains i) (fun i => [0, 2, 4, 6, 7, 9, 11, 13].contains i) [] (by kernel_rfl) (by kernel_rfl) ?_
 refine acan1_n rfl rfl rfl rfl (n_fieldAddr' rfl rfl rfl) ?_
 try dsimp only [St.put]
 refine acan1_s rfl rfl rfl rfl (s_load rfl rfl) ?_
 refine acan1_n rfl rfl rfl rfl (n_fieldAddr' rfl rfl rfl) ?_
 try dsimp only [St.put]
 refine acan1_s rfl rfl rfl rfl (s_load rfl rfl) ?_
 refine acan1_n rfl rfl rfl rfl (n_fieldAddr' rfl rfl rfl) ?_
 try dsimp only [St.put]
 refine acan1_s rfl rfl rfl rfl (s_load rfl rfl) ?_
 refine acan1_n rfl rfl rfl rfl (n_buildA rfl rfl) ?_
 refine acan1_n rfl rfl rfl rfl (n_fieldAddr' rfl rfl rfl) ?_
 try dsimp only [St.put]
 refine acan1_s rfl rfl rfl rfl (s_load rfl rfl) ?_
 refine acan1_n rfl rfl rfl rfl (n_fieldAddr' rfl rfl rfl) ?_
 try dsimp only [St.put]
 refine acan1_s rfl rfl rfl rfl (s_load rfl rfl) ?_
 refine acan1_n rfl rfl rfl rfl (n_fieldAddr' rfl rfl rfl) ?_
 try dsimp only [St.put]
 refine acan1_s rfl rfl rfl rfl (s_load rfl rfl) ?_
 refine acan1_n rfl rfl rfl rfl (n_buildA rfl rfl) ?_
 refine acan1_two ?_
 refine acan2_allocs rfl rfl rfl rfl rfl rfl rfl rfl (by decide) (by simp) ?_
 try dsimp only [St.put]
 refine acan2_e rfl rfl rfl (e_store_all rfl rfl rfl zG rfl rfl (by rfl) ⟨zD, ?_⟩)
 try dsimp only [St.put]
 refine acan2_late rfl rfl rfl rfl (e_store_all rfl rfl rfl zG rfl rfl (by rfl) ?_)
 refine acan2_nil ?_
 dsimp only [St.put]
 refine K2 _ ?_
 refine aw_commitD (i := 5) rfl zG (by first | exact List.cons_ne_nil _ _ | (simp; done) | (simp [putAt]; done)) ?_
 refine aw_commitD (i := 6) rfl zG (by first | exact List.cons_ne_nil _ _ | (simp; done) | (simp [putAt]; done)) ?_
 dsimp only
 refine yS fun _ K3 => ?_
 refine aw_draw [(0, none), (1, none), (2, none), (3, none)] (fun i => [2].contains i) (fun i => [2].contains i) (fun i => [0, 1, 3].contains i) [] (by kernel_rfl) (by kernel_rfl) ?_
 (refine acan1_n rfl rfl rfl rfl (n_slice_arr (sz := 1) (m := 3) (e := 3) (rows := (keyR a).map cells) rfl rfl rfl rfl (fun r hr => by obtain ⟨y, _, rfl⟩ := List.mem_map.1 hr; rfl) (by decide) (by decide)) ?_)
 (refine acan1_n rfl rfl rfl rfl (n_slice_arr (sz := 1) (m := 3) (e := 3) (rows := (keyR b).map cells) rfl rfl rfl rfl (fun r hr => by obtain ⟨y, _, rfl⟩ := List.mem_map.1 hr; rfl) (by decide) (by decide)) ?_)
 refine acan1_two ?_
 try dsimp only [St.put]
 refine acan2_late rfl rfl rfl rfl (e_call_pure rfl rfl rfl (cmpSlices_pure (keyR a) (keyR b) (by show 3 ≤ 1000; decide) (by show 3 ≤ 1000; decide)) ?_)
 refine acan2_n rfl rfl rfl rfl (n_as rfl (by constructor)) ?_
 refine acan2_nil ?_
 dsimp only [St.put]
 refine K3 _ ?_
 refine aw_ret ?_
 refine ends_1 rfl (by constructor) zN zS ?_
 rfl
theorem close1_pc (t : TextD) (e : EditionD) (n m V : Nat) (f : L2 → Option L2) (p : PlaceD) (hp : -100000 ≤ p.wd ∧ p.wd ≤ 100000) (G : Nat → Option GObj) (nx : Nat) (hn : n < nx) (hm : m < nx) (hG : G n = some (gmap Tryz.prog 95 V (capp f))) :
  PC Tryz.prog 44 [val p, (.elem [.elem (bookC t e n m)])] G nx fun r' G' nx' => r' = val (rfV f p) ∧ G' = G ∧ nx' = nx := by
 refine pc_named_of_body (G) (nx) Tryz.func44 rfl ((val_low _ _)) zN (fun hlt => zH) ?_
 simp only [Tryz.ntmps44, List.length_cons, List.length_nil, Nat.reduceAdd, Nat.reduceSub]
 refine aw_lt fun hlt => ?_
 dsimp only at hlt
 refine yS fun _ K1 => ?_
 refine yR ?_
 try dsimp only [St.put]
 refine yB rfl rfl rfl ?_
 try dsimp only [St.put]
 refine aops_e rfl (e_allocC rfl ?_)
 refine yN ?_
 dsimp only [St.put]
 refine K1 _ ?_
 refine yS fun _ K2 => ?_
 refine yR ?_
 refine yL rfl rfl rfl ?_
 refine yE rfl rfl rfl ?_
 try dsimp only [St.put]
 refine aops_e rfl (e_call_one rfl rfl rfl (bookRefer_pc t e _ _ _ f p hp _ _ (by dsimp only [St.put]; omega) (by dsimp only [St.put]; omega) zG) ?_)
 refine yM rfl rfl ?_
 refine yX rfl rfl rfl rfl ?_
 refine yX rfl rfl rfl rfl ?_
 try dsimp only [St.put]
 refine aops_e rfl (e_allocC rfl ?_)
 try dsimp only [St.put]
 refine aops_e rfl (e_store_all rfl rfl rfl zG rfl rfl (by rfl) ?_)
 refine yA rfl rfl ?_
 refine yN ?_
 dsimp only [St.put]
 refine K2 _ ?_
 refine yS fun _ K3 => ?_
 refine yR ?_
 try dsimp only [St.put]
 refine aops_s rfl (s_load_box_all rfl rfl zG trivial (by rfl)) ?_
 try dsimp only [St.put]
 refine aops_e rfl (e_store_all rfl rfl rfl zG rfl rfl (by rfl) ?_)
 refine yN ?_
 dsimp only [St.put]
 refine K3 _ ?_
 refine aw_ret ?_
 refine ends_v1 rfl (rv_box rfl zG (by rfl) (by first | exact List.cons_ne_nil _ _ | (simp; done) | (simp [putAt]; done)) rfl) zN zS ?_
 exact zW
theorem close2_pc (t : TextD) (e : EditionD) (n m V : Nat) (f : L2 → Option L2) (p q : PlaceD) (hp : -100000 ≤ p.wd ∧ p.wd ≤ 100000) (hq : -100000 ≤ q.wd ∧ q.wd ≤ 100000) (G : Nat → Option GObj) (nx : Nat) (hn : n < nx) (hm : m < nx) (hG : G n = some (gmap Tryz.prog 95 V (capp f))) :
  PC Tryz.prog 48 [val p, val q, (.elem [.fn (.func 44) [(.elem [.elem (bookC t e n m)])]])] G nx fun r' G' nx' => r' = .v (.int .i64 (cmpL (keyF f p) (keyF f q))) ∧ G' = G ∧ nx' = nx := by
 refine pc_named_of_body (G) (nx) Tryz.func48 rfl (.v) zN (fun hlt => zH) ?_
 simp only [Tryz.ntmps48, List.length_cons, List.length_nil, Nat.reduceAdd, Nat.reduceSub]
 refine aw_lt fun hlt => ?_
 dsimp only at hlt
 refine yS fun _ K1 => ?_
 refine yR ?_
 try dsimp only [St.put]
 refine yB rfl rfl rfl ?_
 try dsimp only [St.put]
 refine yB rfl rfl rfl ?_
 refine yA rfl rfl ?_
 refine yN ?_
 dsimp only [St.put]
 refine K1 _ ?_
 refine yS fun _ K2 => ?_
 refine aw_draw [(0, none), (1, none), (3, none), (4, none), (2, none), (5, none), (6, none), (7, none)] (fun i => [5, 6].contains i) (fun i => [2, 5, 6].contains i) (fun i => [7].contains i) [] (by kernel_rfl) (by kernel_rfl) ?_
 try dsimp only [St.put]
 refine acan1_s rfl rfl rfl rfl (s_load rfl rfl) ?_
 try dsimp only [St.put]
 refine acan1_s rfl rfl rfl rfl (s_load_agg' rfl rfl (Enc.len _)) ?_
 try dsimp only [St.put]
 refine acan1_s rfl rfl rfl rfl (s_load rfl rfl) ?_
 try dsimp only [St.put]
 refine acan1_s rfl rfl rfl rfl (s_load_agg' rfl rfl (Enc.len _)) ?_
 refine acan1_two ?_
 try dsimp only [St.put]
 refine acan2_e rfl rfl rfl (e_call_one rfl rfl rfl (close1_pc t e _ _ _ f p hp _ _ (by dsimp only [St.put]; omega) (by dsimp only [St.put]; omega) zG) ⟨zD, ?_⟩)
 try dsimp only [St.put]
 refine acan2_late rfl rfl rfl rfl (e_call_one rfl rfl rfl (close1_pc t e _ _ _ f q hq _ _ (by dsimp only [St.put]; omega) (by dsimp only [St.put]; omega) zG) ?_)
 try dsimp only [St.put]
 refine acan2_late rfl rfl rfl rfl (e_call_pure rfl rfl rfl (order_pure (rfV f p) (rfV f q)) ?_)
 refine acan2_n rfl rfl rfl rfl (n_as rfl (by constructor)) ?_
 refine acan2_nil ?_
 dsimp only [St.put]
 refine K2 _ ?_
 refine aw_ret ?_
 refine ends_1 rfl (by constructor) zN zS ?_
 rfl
theorem close3_pc (t : TextD) (e : EditionD) (n m V : Nat) (f : L2 → Option L2) (p : PlaceD) (r : RefD) (hp : -100000 ≤ p.wd ∧ p.wd ≤ 100000) (G : Nat → Option GObj) (nx : Nat) (hn : n < nx) (hm : m < nx) (hG : G n = some (gmap Tryz.prog 95 V (capp f))) :
  PC Tryz.prog 51 [val p, (.elem [.fn (.func 44) [(.elem [.elem (bookC t e n m)])]]), .elem (cells r)] G nx fun r' G' nx' => r' = .v (.int .i64 (cmpL (keyF f p) (keyR r))) ∧ G' = G ∧ nx' = nx := by
 refine pc_named_of_body (G) (nx) Tryz.func51 rfl (.v) zN (fun hlt => zH) ?_
 simp only [Tryz.ntmps51, List.length_cons, List.length_nil, Nat.reduceAdd, Nat.reduceSub]
 refine aw_lt fun hlt => ?_
 dsimp only at hlt
 refine yS fun _ K1 => ?_
 refine yR ?_
 try dsimp only [St.put]
 refine yB rfl rfl rfl ?_
 refine yA rfl rfl ?_
 refine yN ?_
 dsimp only [St.put]
 refine K1 _ ?_
 refine yS fun _ K2 => ?_
 refine aw_draw [(0, none), (1, none), (3, none), (2, none), (4, none), (5, none)] (fun i => [4].contains i) (fun i => [2, 4].contains i) (fun i => [5].contains i) [] (by kernel_rfl) (by kernel_rfl) ?_
 try dsimp only [St.put]
 refine acan1_s rfl rfl rfl rfl (s_load rfl rfl) ?_
 try dsimp only [St.put]
 refine acan1_s rfl rfl rfl rfl (s_load_agg' rfl rfl (Enc.len _)) ?_
 try dsimp only [St.put]
 refine acan1_s rfl rfl rfl rfl (s_load_agg' rfl rfl (Enc.len _)) ?_
 refine acan1_two ?_
 try dsimp only [St.put]
 refine acan2_e rfl rfl rfl (e_call_one rfl rfl rfl (close1_pc t e _ _ _ f p hp _ _ (by dsimp only [St.put]; omega) (by dsimp only [St.put]; omega) zG) ⟨zD, ?_⟩)
 try dsimp only [St.put]
 refine acan2_late rfl rfl rfl rfl (e_call_pure rfl rfl rfl (order_pure (rfV f p) r) ?_)
 refine acan2_n rfl rfl rfl rfl (n_as rfl (by constructor)) ?_
 refine acan2_nil ?_
 dsimp only [St.put]
 refine K2 _ ?_
 refine aw_ret ?_
 refine ends_1 rfl (by constructor) zN zS ?_
 rfl
set_option maxHeartbeats 1000000 in
theorem chartClose_ok (t : TextD) (e : EditionD) (r : RefD) (hl : e.ss.length ≤ 20) (h : soundEr t e = 0) (hr : refB r = true) :
  PureF chkF Tryz.prog 11 [textC t, val e, val r] (.tup [lst (closeV t e r), .v (.int .i64 (closeEr t e r))]) := by
 refine pureF_of_body Tryz.func11 rfl (fun m => .tup (low_cons (lst_low _ _) (low_cons .v low_nil))) fun G nx hF => ?_
 simp only [Tryz.ntmps11, List.length_cons, List.length_nil, Nat.reduceAdd, Nat.reduceSub]
 refine aw_lt fun hlt => ?_
 dsimp only at hlt
 have hnx := hlt 0 _ hF
 have hS := soundEr_sound h
 have hWl := wordsP_len hS.tx (asOf e.ss) (linesT t)
 have hLl := linesT_len hS.tx
 have hWp : ∀ q ∈ wordsF t (asOf e.ss), PBdP q := fun q hq => words_place hS.tx hq
 refine yS fun _ K1 => ?_
 refine yR ?_
 try dsimp only [St.put]
 refine yB rfl rfl rfl ?_
 try dsimp only [St.put]
 refine yB rfl rfl rfl ?_
 try dsimp only [St.put]
 refine yB rfl rfl rfl ?_
 refine yA rfl rfl ?_
 refine yA rfl rfl ?_
 refine yN ?_
 dsimp only [St.put]
 refine K1 _ ?_
 refine yS fun _ K2 => ?_
 refine yR ?_
 try dsimp only [St.put]
 refine aops_s rfl (s_load_agg' rfl rfl rfl) ?_
 refine yE rfl rfl rfl ?_
 refine yE rfl rfl rfl ?_
 try dsimp only [St.put]
 refine aops_e rfl (e_buildSlice rfl rfl rfl (by decide) (by decide) zR (by decide) ?_)
 try dsimp only [St.put]
 refine aops_e rfl (e_call_namedX rfl rfl rfl (numbered1_ok t e r hl h hr _ _ zG) (fun y => ?_))
 refine yM rfl rfl ?_
 refine yX rfl rfl rfl rfl ?_
 refine yX rfl rfl rfl rfl ?_
 refine yA rfl rfl ?_
 refine yA rfl rfl ?_
 refine yN ?_
 dsimp only [St.put]
 refine K2 _ ?_
 refine yS fun _ K3 => ?_
 refine yS fun _ K4 => ?_
 refine yR ?_
 refine yM rfl rfl ?_
 refine aops_n rfl (n_bool (c := false) (n_neq rfl rfl rfl) (by rfl)) ?_
 refine yN ?_
 dsimp only [St.put]
 refine K4 _ ?_
 refine aw_cond rfl (fun h => by cases h) (fun _ => ?_)
 refine aw_skip ?_
 refine K3 _ ?_
 refine yS fun _ K5 => ?_
 refine yR ?_
 refine yM rfl rfl ?_
 try dsimp only [St.put]
 refine aops_n rfl (n_indexAddr (k := 0) rfl rfl rfl (by first | rfl | omega) rfl rfl) ?_
 refine yL rfl rfl rfl ?_
 try dsimp only [St.put]
 refine aops_e rfl (e_allocC rfl ?_)
 try dsimp only [St.put]
 refine aops_e rfl (e_store_all rfl rfl rfl zG rfl rfl (by rfl) ?_)
 refine yN ?_
 dsimp only [St.put]
 refine K5 _ ?_
 refine aw_commitD (i := 10) rfl zG (by first | exact List.cons_ne_nil _ _ | (simp; done) | (simp [putAt]; done)) ?_
 dsimp only
 refine yS fun _ K6 => ?_
 refine yS fun _ K7 => ?_
 refine yR ?_
 refine yL rfl rfl rfl ?_
 refine yE rfl rfl rfl ?_
 try dsimp only [St.put]
 refine aops_e rfl (e_call_one rfl rfl rfl (bookLead_pc t e _ _ _ (backOf e.ss) r hS.tx (back_words hS) hr _ _ (by dsimp only [St.put]; omega) (by dsimp only [St.put]; omega) zG) ?_)
 refine yM rfl rfl ?_
 refine yX rfl rfl rfl rfl ?_
 refine yX rfl rfl rfl rfl ?_
 try dsimp only [St.put]
 refine aops_e rfl (e_allocC rfl ?_)
 try dsimp only [St.put]
 refine aops_e rfl (e_store_all rfl rfl rfl zG rfl rfl (by rfl) ?_)
 refine yA rfl rfl ?_
 refine yN ?_
 dsimp only [St.put]
 refine K7 _ ?_
 refine yS fun _ K8 => ?_
 refine yR ?_
 refine yM rfl rfl ?_
 refine yN ?_
 dsimp only [St.put]
 refine K8 _ ?_
 refine aw_cond rfl (fun hc => ?_) (fun hc => ?_)
 ·have hf : (leadO t e.ss r).isSome = true := by simpa [ldO_lead] using hc
  obtain ⟨p, hp⟩ := Option.isSome_iff_exists.1 hf
  have hL : closeL t e.ss r = [p] := by simp [closeL, hp]
  have hE : closeEr t e r = 0 := by simp [closeEr, h, hr, hL]
  have hV : closeV t e r = [p] := by simp [closeV, hE, hL]
  have hpd : (ldO t (backOf e.ss) r).getD ⟨0, 0, 0⟩ = p := by rw [ldO_lead, hp]; rfl
  rw [hpd]
  refine yS fun _ K9 => ?_
  refine yR ?_
  try dsimp only [St.put]
  refine aops_s rfl (s_load_box_all rfl rfl zG trivial (by rfl)) ?_
  try dsimp only [St.put]
  refine aops_e rfl (e_buildSlice rfl rfl rfl (by decide) (by decide) zR (by decide) ?_)
  refine yA rfl rfl ?_
  refine yA rfl rfl ?_
  refine yN ?_
  dsimp only [St.put]
  refine K9 _ ?_
  refine aw_ret ?_
  refine ends_v2 rfl (rv_tmp (by constructor)) (rv_tmp (by constructor)) zN zS ?_ ?_
  ·rw [hV]
   exact zW
  exact Wk.of_eq (vi hE.symm)
 have hf : leadO t e.ss r = none := by simpa [ldO_lead] using hc
 refine aw_skip ?_
 refine K6 _ ?_
 refine yS fun _ K10 => ?_
 refine yR ?_
 refine aops_n rfl (n_makeFunc rfl rfl) ?_
 try dsimp only [St.put]
 refine aops_e rfl (e_allocC rfl ?_)
 try dsimp only [St.put]
 refine aops_e rfl (e_store_all rfl rfl rfl zG rfl rfl (by rfl) ?_)
 refine yN ?_
 dsimp only [St.put]
 refine K10 _ ?_
 refine aw_commitD (i := 13) rfl zG (by first | exact List.cons_ne_nil _ _ | (simp; done) | (simp [putAt]; done)) ?_
 dsimp only
 refine yS fun _ K11 => ?_
 refine yR ?_
 refine yL rfl rfl rfl ?_
 try dsimp only [St.put]
 refine aops_e rfl (e_call_named rfl rfl rfl (words_own t e (asOf e.ss) _ _ _ hS.tx _ _ (by dsimp only [St.put]; omega) (by dsimp only [St.put]; omega) zG) ?_)
 refine yA rfl rfl ?_
 refine yN ?_
 dsimp only [St.put]
 refine K11 _ ?_
 refine yS fun _ K12 => ?_
 refine yR ?_
 refine yM rfl rfl ?_
 refine aops_n rfl (n_makeFunc rfl rfl) ?_
 try dsimp only [St.put]
 refine aops_e rfl (e_sort srt_Place PBdP (fun a b => cmpL (keyF (asOf e.ss) a) (keyF (asOf e.ss) b)) rfl rfl rfl rfl zG rfl rfl rfl (fun y hy => hy.plain) hWp (by unfold wordsF; omega) (fun a b ha hb => close2_pc t e _ _ _ (asOf e.ss) a b (by obtain ⟨_, _, h3⟩ := ha; omega) (by obtain ⟨_, _, h3⟩ := hb; omega) _ _ (by dsimp only [St.put]; omega) (by dsimp only [St.put]; omega) zG) (keyF_ord _) (fun ys hperm hsort => ?_))
 refine yN ?_
 dsimp only [St.put]
 have hlen := hperm.length_eq
 have hL := close_beside hS hr hf hperm hsort
 refine K12 _ ?_
 refine aw_commit_own 14 ys rfl zG rfl rfl hlen.symm ?_
 dsimp only
 refine yS fun _ K13 => ?_
 refine yR ?_
 refine yM rfl rfl ?_
 refine aops_n rfl (n_makeFunc rfl rfl) ?_
 try dsimp only [St.put]
 refine aops_e rfl (e_call_one rfl rfl rfl (beside_pc ys (fun q => cmpL (keyF (asOf e.ss) q) (keyR r)) 51 [.elem [.fn (.func 44) [.elem [.elem (bookC t e (nx + 1 + 1) (nx + 1 + 1 + 1))]]], .elem (cells r)] _ _ (by unfold wordsF at hlen; omega) (low_cons (.elem (low_cons (.fn (low_cons (.elem (low_cons (book_low _ _ (by dsimp only [St.put]; omega) (by dsimp only [St.put]; omega)) low_nil)) low_nil)) low_nil)) (low_cons (cells_low _ _) low_nil)) (by intro c hc; simp only [List.mem_cons, List.not_mem_nil, or_false] at hc; rcases hc with rfl | rfl <;> rfl) fun q hq => close3_pc t e _ _ _ (asOf e.ss) q r (by obtain ⟨_, _, h3⟩ := hWp q (hperm.mem_iff.1 hq); omega) _ _ (by dsimp only [St.put]; omega) (by dsimp only [St.put]; omega) zG) ?_)
 refine yX rfl rfl rfl rfl ?_
 refine yX rfl rfl rfl rfl ?_
 refine yA rfl rfl ?_
 refine yA rfl rfl ?_
 refine yN ?_
 dsimp only [St.put]
 rw [hL]
 have hE : closeEr t e r = besEr ys (cutL ys fun q => cmpL (keyF (asOf e.ss) q) (keyR r)) := by simp [closeEr, h, hr, besEr, hL]
 have hV : closeV t e r = closeL t e.ss r := by
  by_cases h0 : closeL t e.ss r = []
  ·simp [closeV, h0]
  have : closeEr t e r = 0 := by simp [closeEr, h, hr, h0]
  simp [closeV, this]
 refine K13 _ ?_
 refine aw_ret ?_
 refine ends_2 rfl (by constructor) (by constructor) zN zS ?_ ?_
 ·rw [hV]
  rfl
 exact vi hE.symm
theorem chartClose_no (t : TextD) (e : EditionD) (r : RefD) (er : Int) (he0 : er ≠ 0) (hcall : PureF chkF Tryz.prog 42 [textC t, val r, lst [e]] (.tup [.list [] .nil, .v (.int .i64 er)])) :
  PureF chkF Tryz.prog 11 [textC t, val e, val r] (.tup [lst ([] : List PlaceD), .v (.int .i64 er)]) := by
 refine pureF_of_body Tryz.func11 rfl (fun m => .tup (low_cons (lst_low _ _) (low_cons .v low_nil))) fun G nx hF => ?_
 simp only [Tryz.ntmps11, List.length_cons, List.length_nil, Nat.reduceAdd, Nat.reduceSub]
 refine aw_lt fun hlt => ?_
 dsimp only at hlt
 have hnx := hlt 0 _ hF
 refine yS fun _ K1 => ?_
 refine yR ?_
 try dsimp only [St.put]
 refine yB rfl rfl rfl ?_
 try dsimp only [St.put]
 refine yB rfl rfl rfl ?_
 try dsimp only [St.put]
 refine yB rfl rfl rfl ?_
 refine yA rfl rfl ?_
 refine yA rfl rfl ?_
 refine yN ?_
 dsimp only [St.put]
 refine K1 _ ?_
 refine yS fun _ K2 => ?_
 refine yR ?_
 try dsimp only [St.put]
 refine aops_s rfl (s_load_agg' rfl rfl rfl) ?_
 refine yE rfl rfl rfl ?_
 refine yE rfl rfl rfl ?_
 try dsimp only [St.put]
 refine aops_e rfl (e_buildSlice rfl rfl rfl (by decide) (by decide) zR (by decide) ?_)
 try dsimp only [St.put]
 refine aops_e rfl (e_call_f rfl rfl rfl (hcall) zG ?_)
 refine yM rfl rfl ?_
 refine yX rfl rfl rfl rfl ?_
 refine yX rfl rfl rfl rfl ?_
 refine yA rfl rfl ?_
 refine yA rfl rfl ?_
 refine yN ?_
 dsimp only [St.put]
 refine K2 _ ?_
 refine yS fun _ K3 => ?_
 refine yS fun _ K4 => ?_
 refine yR ?_
 refine yM rfl rfl ?_
 refine aops_n rfl (n_bool (c := true) (n_neq rfl rfl rfl) (not_dec_t he0)) ?_
 refine yN ?_
 dsimp only [St.put]
 refine K4 _ ?_
 refine aw_cond rfl (fun _ => ?_) (fun h => by cases h)
 refine yS fun _ K5 => ?_
 refine yR ?_
 refine yM rfl rfl ?_
 refine yA rfl rfl ?_
 refine yA rfl rfl ?_
 refine yN ?_
 dsimp only [St.put]
 refine K5 _ ?_
 refine aw_ret ?_
 refine ends_v2 rfl (rv_tmp (by constructor)) (rv_tmp (by constructor)) zN zS ?_ ?_
 ·exact zW
 exact zW
theorem chartClose_pureF (t : TextD) (e : EditionD) (r : RefD) (hl : e.ss.length ≤ 20) :
  PureF chkF Tryz.prog 11 [textC t, val e, val r] (.tup [lst (closeV t e r), .v (.int .i64 (closeEr t e r))]) := by
 by_cases h : soundEr t e = 0
 ·cases hr : refB r with
  | true => exact chartClose_ok t e r hl h hr
  | false =>
   have hE : closeEr t e r = 2 := by simp [closeEr, h, hr]
   have hV : closeV t e r = [] := by simp [closeV, hE]
   rw [hV, hE]
   exact chartClose_no t e r 2 (by decide) (numbered1_no2 t e r hl h hr)
 have hE : closeEr t e r = soundEr t e := by simp [closeEr, h]
 have hV : closeV t e r = [] := by simp [closeV, hE, h]
 rw [hV, hE]
 exact chartClose_no t e r _ h (numbered_no1 t r [e] _ h (sound1_no t e hl h))
end Go.Proofs.YtjjklfgpffgnfabGreatDoor
