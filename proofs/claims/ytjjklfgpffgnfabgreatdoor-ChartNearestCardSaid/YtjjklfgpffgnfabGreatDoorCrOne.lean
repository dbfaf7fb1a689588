/-
 Contracts of the reference's functions of charts: valid editions, what clashes.
-/
import Derived.Test.YtjjklfgpffgnfabGreatDoorCfFuncs
import Derived.Test.YtjjklfgpffgnfabGreatDoorGrpA
namespace Go.AB
open Go Go.RowKit
open Go.PB (Chap TextD PlaceD)
instance : FlatV StretchD := ⟨fun x => [.int .i64 x.ch, .int .i64 x.fr, .int .i64 x.tt, .int .i64 x.au, .int .i64 x.fi], fun _ => rfl⟩
end Go.AB
namespace Go.Proofs.YtjjklfgpffgnfabGreatDoor
set_option maxRecDepth 10000
open Go.RowKit Go.AB
open Go.AB.Enc (cells)
open Go.PB (Chap TextD PlaceD ReadingD CopyD WayD)
theorem uf_stretch : Tryz.prog.underlying 28 = some (.struct (Tryz.prog.fieldsOf 28)) := by kernel_rfl
theorem sh_stretch : Tryz.prog.stoodInHeld 28 = false := by kernel_rfl
instance : EqT Tryz.prog 28 StretchD where
 guard op w x y xs ys := run_eqGuard_agg w op _ x y xs ys (by kernel_rfl)
 same w x y := by
  obtain ⟨a, b, c, d, e⟩ := x
  obtain ⟨a', b', c', d', e'⟩ := y
  simp only [FlatV.vals]
  rw [run_equalIn_agg _ _ _ _ _ uf_stretch sh_stretch]
  by_cases h1 : a = a' <;> by_cases h2 : b = b' <;> by_cases h3 : c = c' <;> by_cases h4 : d = d' <;> by_cases h5 : e = e' <;> simp [go_sem, h1, h2, h3, h4, h5]

theorem within2_pure (n lo hi : Int) : Pure Tryz.prog 95 [.v (.int .i64 n), .v (.int .i64 lo), .v (.int .i64 hi)] (.v (.bool (inB n lo hi))) := by
 refine pure_of_body Tryz.func95 rfl (fun m => .v) fun G nx => ?_
 simp only [Tryz.ntmps95, List.length_cons, List.length_nil, Nat.reduceAdd, Nat.reduceSub]
 refine aw_lt fun hlt => ?_
 dsimp only at hlt
 refine yS fun _ K1 => ?_
 refine yR ?_
 refine yA rfl rfl ?_
 refine yN ?_
 dsimp only [St.put]
 refine K1 _ ?_
 refine yS fun _ K2 => ?_
 refine yR ?_
 refine yM rfl rfl ?_
 refine yM rfl rfl ?_
 refine aops_n rfl (n_geq rfl rfl rfl) ?_
 refine aops_split (fun hs => ?_) (fun hs => ?_)
 ·try replace hs := of_decide_eq_true hs
  refine yM rfl rfl ?_
  refine yM rfl rfl ?_
  refine yM rfl rfl ?_
  refine aops_n rfl (n_leq rfl rfl rfl) ?_
  refine aops_n rfl (n_pt rfl rfl (by constructor)) ?_
  refine yA rfl rfl ?_
  refine yN ?_
  dsimp only [St.put]
  refine K2 _ ?_
  refine aw_ret ?_
  refine ends_1 rfl (by constructor) zN zS ?_
  exact vb (by simp [inB, hs]; try omega)
 try replace hs := of_decide_eq_false hs
 refine yM rfl rfl ?_
 refine yK rfl ?_
 refine yK rfl ?_
 refine yK rfl ?_
 refine aops_n rfl (n_pf rfl rfl (by constructor)) ?_
 refine yA rfl rfl ?_
 refine yN ?_
 dsimp only [St.put]
 refine K2 _ ?_
 refine aw_ret ?_
 refine ends_1 rfl (by constructor) zN zS ?_
 exact vb (by simp [inB, hs]; try omega)
theorem meet_pure (a m b n : Int) (h1 : I64 (b + n)) (h2 : I64 (a + m)) : Pure Tryz.prog 140 [.v (.int .i64 a), .v (.int .i64 m), .v (.int .i64 b), .v (.int .i64 n)] (.v (.bool (meetB a m b n))) := by
 refine pure_of_body Tryz.func140 rfl (fun m => .v) fun G nx => ?_
 simp only [Tryz.ntmps140, List.length_cons, List.length_nil, Nat.reduceAdd, Nat.reduceSub]
 refine aw_lt fun hlt => ?_
 dsimp only at hlt
 unfold I64 at h1 h2
 refine yS fun _ K1 => ?_
 refine yR ?_
 refine yA rfl rfl ?_
 refine yN ?_
 dsimp only [St.put]
 refine K1 _ ?_
 refine yS fun _ K2 => ?_
 refine yR ?_
 refine yM rfl rfl ?_
 refine yM rfl rfl ?_
 refine yM rfl rfl ?_
 refine aops_n rfl (n_add rfl rfl rfl (by omega)) ?_
 refine aops_n rfl (n_lss rfl rfl rfl) ?_
 refine yM rfl rfl ?_
 refine aops_split (fun hs => ?_) (fun hs => ?_)
 ·try replace hs := of_decide_eq_true hs
  refine yM rfl rfl ?_
  refine yM rfl rfl ?_
  refine yM rfl rfl ?_
  refine aops_n rfl (n_add rfl rfl rfl (by omega)) ?_
  refine aops_n rfl (n_lss rfl rfl rfl) ?_
  refine aops_n rfl (n_pt rfl rfl (by constructor)) ?_
  refine yA rfl rfl ?_
  refine yN ?_
  dsimp only [St.put]
  refine K2 _ ?_
  refine aw_ret ?_
  refine ends_1 rfl (by constructor) zN zS ?_
  exact vb (by simp [meetB]; try omega)
 try replace hs := of_decide_eq_false hs
 refine yK rfl ?_
 refine yK rfl ?_
 refine yK rfl ?_
 refine yK rfl ?_
 refine yK rfl ?_
 refine aops_n rfl (n_pf rfl rfl (by constructor)) ?_
 refine yA rfl rfl ?_
 refine yN ?_
 dsimp only [St.put]
 refine K2 _ ?_
 refine aw_ret ?_
 refine ends_1 rfl (by constructor) zN zS ?_
 exact vb (by simp [meetB]; try omega)
theorem Clashes_pure (a b : StretchD) (ha : SOk a) (hb : SOk b) : Pure Tryz.prog 127 [val a, val b] (.v (.bool (clashB a b))) := by
 refine pure_of_body Tryz.func127 rfl (fun m => .v) fun G nx => ?_
 simp only [Tryz.ntmps127, List.length_cons, List.length_nil, Nat.reduceAdd, Nat.reduceSub]
 refine aw_lt fun hlt => ?_
 dsimp only at hlt
 obtain ⟨a1, a2, a3, a4, a5, a6⟩ := ha
 obtain ⟨b1, b2, b3, b4, b5, b6⟩ := hb
 refine yS fun _ K1 => ?_
 refine yR ?_
 try dsimp only [St.put]
 refine yB rfl rfl rfl ?_
 try dsimp only [St.put]
 refine yB rfl rfl rfl ?_
 refine yA rfl rfl ?_
 refine yN ?_
 dsimp only [St.put]
 refine K1 _ ?_
 refine yS fun _ K2 => ?_
 refine yR ?_
 refine yF rfl rfl rfl rfl ?_
 refine yL rfl rfl rfl ?_
 refine yF rfl rfl rfl rfl ?_
 refine yL rfl rfl rfl ?_
 refine aops_n rfl (n_eql rfl rfl rfl) ?_
 refine yM rfl rfl ?_
 refine aops_split (fun hs => ?_) (fun hs => ?_)
 ·have h5 := of_decide_eq_true hs
  refine yF rfl rfl rfl rfl ?_
  refine yL rfl rfl rfl ?_
  refine yF rfl rfl rfl rfl ?_
  refine yL rfl rfl rfl ?_
  refine yF rfl rfl rfl rfl ?_
  refine yL rfl rfl rfl ?_
  refine aops_n rfl (n_sub rfl rfl rfl (by omega)) ?_
  refine yF rfl rfl rfl rfl ?_
  refine yL rfl rfl rfl ?_
  refine yF rfl rfl rfl rfl ?_
  refine yL rfl rfl rfl ?_
  refine yF rfl rfl rfl rfl ?_
  refine yL rfl rfl rfl ?_
  refine aops_n rfl (n_sub rfl rfl rfl (by omega)) ?_
  try dsimp only [St.put]
  refine aops_e rfl (e_call_pure rfl rfl rfl (meet_pure _ _ _ _ (by unfold I64; omega) (by unfold I64; omega)) ?_)
  refine aops_n rfl (n_pt rfl rfl (by constructor)) ?_
  refine yM rfl rfl ?_
  refine aops_split (fun hs => ?_) (fun hs => ?_)
  ·have h22 := hs
   refine yK rfl ?_
   refine yK rfl ?_
   refine yK rfl ?_
   refine yK rfl ?_
   refine yK rfl ?_
   refine yK rfl ?_
   refine yK rfl ?_
   refine yK rfl ?_
   refine yK rfl ?_
   refine yK rfl ?_
   refine yK rfl ?_
   refine yK rfl ?_
   refine yK rfl ?_
   refine yK rfl ?_
   refine yK rfl ?_
   refine yK rfl ?_
   refine yK rfl ?_
   refine yK rfl ?_
   refine yK rfl ?_
   refine yK rfl ?_
   refine yK rfl ?_
   refine yK rfl ?_
   refine aops_n rfl (n_pt rfl rfl (by constructor)) ?_
   refine yA rfl rfl ?_
   refine yN ?_
   dsimp only [St.put]
   refine K2 _ ?_
   refine aw_ret ?_
   refine ends_1 rfl (by constructor) zN zS ?_
   exact vb (by simp_all [clashB])
  have h22 := hs
  refine yF rfl rfl rfl rfl ?_
  refine yL rfl rfl rfl ?_
  refine yF rfl rfl rfl rfl ?_
  refine yL rfl rfl rfl ?_
  refine aops_n rfl (n_eql rfl rfl rfl) ?_
  refine yM rfl rfl ?_
  refine aops_split (fun hs => ?_) (fun hs => ?_)
  ·have h28 := of_decide_eq_true hs
   refine yF rfl rfl rfl rfl ?_
   refine yL rfl rfl rfl ?_
   refine yF rfl rfl rfl rfl ?_
   refine yL rfl rfl rfl ?_
   refine yF rfl rfl rfl rfl ?_
   refine yL rfl rfl rfl ?_
   refine aops_n rfl (n_sub rfl rfl rfl (by omega)) ?_
   refine yF rfl rfl rfl rfl ?_
   refine yL rfl rfl rfl ?_
   refine yF rfl rfl rfl rfl ?_
   refine yL rfl rfl rfl ?_
   refine yF rfl rfl rfl rfl ?_
   refine yL rfl rfl rfl ?_
   refine aops_n rfl (n_sub rfl rfl rfl (by omega)) ?_
   try dsimp only [St.put]
   refine aops_e rfl (e_call_pure rfl rfl rfl (meet_pure _ _ _ _ (by unfold I64; omega) (by unfold I64; omega)) ?_)
   refine aops_n rfl (n_pt rfl rfl (by constructor)) ?_
   refine aops_n rfl (n_pf rfl rfl (by constructor)) ?_
   refine yA rfl rfl ?_
   refine yN ?_
   dsimp only [St.put]
   refine K2 _ ?_
   refine aw_ret ?_
   refine ends_1 rfl (by constructor) zN zS ?_
   exact vb (by simp_all [clashB])
  have h28 := of_decide_eq_false hs
  refine yK rfl ?_
  refine yK rfl ?_
  refine yK rfl ?_
  refine yK rfl ?_
  refine yK rfl ?_
  refine yK rfl ?_
  refine yK rfl ?_
  refine yK rfl ?_
  refine yK rfl ?_
  refine yK rfl ?_
  refine yK rfl ?_
  refine yK rfl ?_
  refine yK rfl ?_
  refine yK rfl ?_
  refine yK rfl ?_
  refine aops_n rfl (n_pf rfl rfl (by constructor)) ?_
  refine aops_n rfl (n_pf rfl rfl (by constructor)) ?_
  refine yA rfl rfl ?_
  refine yN ?_
  dsimp only [St.put]
  refine K2 _ ?_
  refine aw_ret ?_
  refine ends_1 rfl (by constructor) zN zS ?_
  exact vb (by simp_all [clashB])
 have h5 := of_decide_eq_false hs
 refine yK rfl ?_
 refine yK rfl ?_
 refine yK rfl ?_
 refine yK rfl ?_
 refine yK rfl ?_
 refine yK rfl ?_
 refine yK rfl ?_
 refine yK rfl ?_
 refine yK rfl ?_
 refine yK rfl ?_
 refine yK rfl ?_
 refine yK rfl ?_
 refine yK rfl ?_
 refine yK rfl ?_
 refine yK rfl ?_
 refine aops_n rfl (n_pf rfl rfl (by constructor)) ?_
 refine yM rfl rfl ?_
 refine yF rfl rfl rfl rfl ?_
 refine yL rfl rfl rfl ?_
 refine yF rfl rfl rfl rfl ?_
 refine yL rfl rfl rfl ?_
 refine aops_n rfl (n_eql rfl rfl rfl) ?_
 refine yM rfl rfl ?_
 refine aops_split (fun hs => ?_) (fun hs => ?_)
 ·have h28 := of_decide_eq_true hs
  refine yF rfl rfl rfl rfl ?_
  refine yL rfl rfl rfl ?_
  refine yF rfl rfl rfl rfl ?_
  refine yL rfl rfl rfl ?_
  refine yF rfl rfl rfl rfl ?_
  refine yL rfl rfl rfl ?_
  refine aops_n rfl (n_sub rfl rfl rfl (by omega)) ?_
  refine yF rfl rfl rfl rfl ?_
  refine yL rfl rfl rfl ?_
  refine yF rfl rfl rfl rfl ?_
  refine yL rfl rfl rfl ?_
  refine yF rfl rfl rfl rfl ?_
  refine yL rfl rfl rfl ?_
  refine aops_n rfl (n_sub rfl rfl rfl (by omega)) ?_
  try dsimp only [St.put]
  refine aops_e rfl (e_call_pure rfl rfl rfl (meet_pure _ _ _ _ (by unfold I64; omega) (by unfold I64; omega)) ?_)
  refine aops_n rfl (n_pt rfl rfl (by constructor)) ?_
  refine aops_n rfl (n_pf rfl rfl (by constructor)) ?_
  refine yA rfl rfl ?_
  refine yN ?_
  dsimp only [St.put]
  refine K2 _ ?_
  refine aw_ret ?_
  refine ends_1 rfl (by constructor) zN zS ?_
  exact vb (by simp_all [clashB])
 have h28 := of_decide_eq_false hs
 refine yK rfl ?_
 refine yK rfl ?_
 refine yK rfl ?_
 refine yK rfl ?_
 refine yK rfl ?_
 refine yK rfl ?_
 refine yK rfl ?_
 refine yK rfl ?_
 refine yK rfl ?_
 refine yK rfl ?_
 refine yK rfl ?_
 refine yK rfl ?_
 refine yK rfl ?_
 refine yK rfl ?_
 refine yK rfl ?_
 refine aops_n rfl (n_pf rfl rfl (by constructor)) ?_
 refine aops_n rfl (n_pf rfl rfl (by constructor)) ?_
 refine yA rfl rfl ?_
 refine yN ?_
 dsimp only [St.put]
 refine K2 _ ?_
 refine aw_ret ?_
 refine ends_1 rfl (by constructor) zN zS ?_
 exact vb (by simp_all [clashB])
theorem Great2_pure (e : EditionD) : Pure Tryz.prog 69 [val e] (.v (.bool (decide (20 < e.ss.length)))) := by
 refine pure_of_body Tryz.func69 rfl (fun m => .v) fun G nx => ?_
 simp only [Tryz.ntmps69, List.length_cons, List.length_nil, Nat.reduceAdd, Nat.reduceSub]
 refine aw_lt fun hlt => ?_
 dsimp only at hlt
 refine yS fun _ K1 => ?_
 refine yR ?_
 try dsimp only [St.put]
 refine yB rfl rfl rfl ?_
 refine yA rfl rfl ?_
 refine yN ?_
 dsimp only [St.put]
 refine K1 _ ?_
 refine yS fun _ K2 => ?_
 refine yR ?_
 refine yF rfl rfl rfl rfl ?_
 refine yL rfl rfl rfl ?_
 refine aops_n rfl (n_len' rfl rfl (List.length_map _)) ?_
 refine aops_n rfl (n_gtr rfl rfl rfl) ?_
 refine yA rfl rfl ?_
 refine yN ?_
 dsimp only [St.put]
 refine K2 _ ?_
 refine aw_ret ?_
 refine ends_1 rfl (by constructor) zN zS ?_
 exact vb (by simp; omega)
theorem Edition_pure (t : TextD) (e : EditionD) (ht : textB t = true) : Pure Tryz.prog 71 [textC t, val e] (.v (.bool (editionB t e))) := by
 refine pure_of_body Tryz.func71 rfl (fun m => .v) fun G nx => ?_
 simp only [Tryz.ntmps71, List.length_cons, List.length_nil, Nat.reduceAdd, Nat.reduceSub]
 refine aw_lt fun hlt => ?_
 dsimp only at hlt
 refine aw_fit 1 (fun hf => ?_)
 replace hf := edition_fit hf
 have hf0 := hf.len
 obtain ⟨hl1, hl2, hl3⟩ := text_ok ht
 refine yS fun _ K1 => ?_
 refine yR ?_
 try dsimp only [St.put]
 refine yB rfl rfl rfl ?_
 try dsimp only [St.put]
 refine yB rfl rfl rfl ?_
 refine yA rfl rfl ?_
 refine yN ?_
 dsimp only [St.put]
 refine K1 _ ?_
 refine yS fun _ K2 => ?_
 refine yS fun _ K3 => ?_
 refine yR ?_
 refine yF rfl rfl rfl rfl ?_
 refine yL rfl rfl rfl ?_
 try dsimp only [St.put]
 refine aops_e rfl (e_call_pure rfl rfl rfl (within2_pure _ _ _) ?_)
 refine aops_n rfl (n_not rfl rfl) ?_
 refine yM rfl rfl ?_
 refine aops_split (fun hs => ?_) (fun hs => ?_)
 ·have hid : inB e.id 0 9999 = false := by simpa using hs
  refine yK rfl ?_
  refine yK rfl ?_
  refine yK rfl ?_
  refine yK rfl ?_
  refine aops_n rfl (n_pt rfl rfl (by constructor)) ?_
  refine yN ?_
  dsimp only [St.put]
  refine K3 _ ?_
  refine aw_cond rfl (fun _ => ?_) (fun h => by cases h)
  skip
  refine yS fun _ K4 => ?_
  refine yR ?_
  refine yA rfl rfl ?_
  refine yN ?_
  dsimp only [St.put]
  refine K4 _ ?_
  refine aw_ret ?_
  refine ends_1 rfl (by constructor) zN zS ?_
  first
  | (refine vb ?_; simp [editionB, hid]; done)
  | (have h := of_decide_eq_true (hc : decide _ = true)
     have h2 : ¬ e.ss.length ≤ 12 := by omega
     exact vb (by simp [editionB, hid, h2]))
 have hid : inB e.id 0 9999 = true := by simpa using hs
 refine yF rfl rfl rfl rfl ?_
 refine yL rfl rfl rfl ?_
 refine aops_n rfl (n_len' rfl rfl (List.length_map _)) ?_
 refine aops_n rfl (n_gtr rfl rfl rfl) ?_
 refine aops_n rfl (n_pf rfl rfl (by constructor)) ?_
 refine yN ?_
 dsimp only [St.put]
 refine K3 _ ?_
 refine aw_cond rfl (fun hc => ?_) (fun hc => ?_)
 ·skip
  refine yS fun _ K5 => ?_
  refine yR ?_
  refine yA rfl rfl ?_
  refine yN ?_
  dsimp only [St.put]
  refine K5 _ ?_
  refine aw_ret ?_
  refine ends_1 rfl (by constructor) zN zS ?_
  first
  | (refine vb ?_; simp [editionB, hid]; done)
  | (have h := of_decide_eq_true (hc : decide _ = true)
     have h2 : ¬ e.ss.length ≤ 12 := by omega
     exact vb (by simp [editionB, hid, h2]))
 have hln : e.ss.length ≤ 12 := by have h := of_decide_eq_false (hc : decide _ = false); omega
 refine aw_skip ?_
 refine K2 _ ?_
 refine yS fun _ K6 => ?_
 refine yS fun _ K7 => ?_
 refine yR ?_
 refine yA rfl rfl ?_
 refine yN ?_
 dsimp only [St.put]
 refine K7 _ ?_
 refine aw_block ?_
 refine aw_wipe 6 ?_
 simp only [firsts, getA, Nat.reduceAdd, List.getD_cons_zero, List.getD_cons_succ, List.getD_nil, natBeq, Nat.reduceBEq, cond_true, cond_false]
 refine aw_forget (G) zX ?_
 dsimp only
 refine aw_loopD (X := Nat) (fun k => k ≤ e.ss.length ∧ (e.ss.take k).all (strB t) = true) (fun k => e.ss.length - k) (fun k => [(5, .v (.int .i64 (k : Int)))]) (fun k G' => G') 0 rfl ?_ ?_ (fun _ _ h => h) ?_ ?_ ?_
 ·exact ⟨by simp, by simp⟩
 ·exact zF
 ·rintro k hI
  exact zL
 ·exact fun _ _ _ _ h => .inl h
 rintro k hI
 dsimp only at hI ⊢
 refine yS fun _ K8 => ?_
 refine yS fun _ K9 => ?_
 refine yR ?_
 refine yM rfl rfl ?_
 refine yF rfl rfl rfl rfl ?_
 refine yL rfl rfl rfl ?_
 refine aops_n rfl (n_len' rfl rfl (List.length_map _)) ?_
 refine aops_n rfl (n_lss rfl rfl rfl) ?_
 refine yN ?_
 dsimp only [St.put]
 refine K9 _ ?_
 refine aw_cond rfl (fun hc => ?_) (fun hc => ?_)
 ·replace hc := of_decide_eq_true hc
  obtain ⟨s, hx⟩ : ∃ x, e.ss[k]? = some x := some_of_lt (by omega)
  have hsf := hf.ss s (mem_of_get hx)
  obtain ⟨f1, f2, f3, f4, f5⟩ := hsf
  unfold I64 at f1 f2 f3 f4 f5
  refine aw_skip ?_
  refine K8 _ ?_
  refine yS fun _ K10 => ?_
  refine aw_block ?_
  refine yS fun _ K11 => ?_
  refine yR ?_
  refine yF rfl rfl rfl rfl ?_
  refine yL rfl rfl rfl ?_
  refine yM rfl rfl ?_
  refine aops_n rfl (n_indexAddr rfl rfl rfl rfl (map_get (by assumption)) (Enc.len _)) ?_
  refine yE rfl rfl rfl ?_
  try dsimp only [St.put]
  refine aops_e rfl (e_allocC rfl ?_)
  try dsimp only [St.put]
  refine aops_e rfl (e_store_all rfl rfl rfl zG rfl rfl (by rfl) ?_)
  refine yN ?_
  dsimp only [St.put]
  refine K11 _ ?_
  refine aw_commitD (i := 6) rfl zG (by first | exact List.cons_ne_nil _ _ | (simp; done) | (simp [putAt]; done)) ?_
  dsimp only
  refine aw_wipe 7 ?_
  simp only [firsts, getA, Nat.reduceAdd, List.getD_cons_zero, List.getD_cons_succ, List.getD_nil, natBeq, Nat.reduceBEq, cond_true, cond_false]
  refine aw_cutD (X := Bool) (fun b => b = !strB t s) (fun b => [(87, .v (.bool b))]) (fun b G' => G') rfl ?_ (fun _ _ _ _ h => .inl h) ?_ ?_
  ·rintro b hI
   exact zL
  ·refine aw_drawT [(0, none), (1, none), (2, none), (3, none), (4, none), (5, none)] (fun _ => false) (fun i => [0, 2, 4, 5].contains i) 53 [true, true, true, true, true, true, false, false, false, false, false, false, false, false, false, false, false, false, false, false, false, false, false, false, false, false, false, false, false, false, false, false, false, false, false, false, false, false, false, false, false, false, false, false, false, false, false, false, false, false, false, false, false, false, false, false, false, false, false] (by kernel_rfl) (by kernel_rfl) ?_
   refine acan1_n rfl rfl rfl rfl (n_fieldAddr' rfl rfl rfl) ?_
   try dsimp only [St.put]
   refine acan1_s rfl rfl rfl rfl (s_load rfl rfl) ?_
   refine acan1_n rfl rfl rfl rfl (n_fieldAddr' rfl rfl rfl) ?_
   try dsimp only [St.put]
   refine acan1_s rfl rfl rfl rfl (s_load rfl rfl) ?_
   refine acan1_n rfl rfl rfl rfl (n_len' rfl rfl (List.length_map _)) ?_
   refine acan1_n rfl rfl rfl rfl (n_sub rfl rfl rfl (by omega)) ?_
   refine acan1_nil ?_
   refine aany_step [6] (by kernel_rfl) (by simp) ?_
   refine aeach_cons ?_ ?_
   ·try dsimp only [St.put]
    refine aone_e rfl rfl rfl (e_call_pure rfl rfl rfl (within2_pure _ _ _) ?_)
    refine aany_quiet [(7, none), (8, none), (9, none), (10, none), (11, none), (12, none), (13, none), (14, none), (15, none), (16, none), (17, none), (18, none), (19, none)] (fun i => [7, 8, 9, 11, 13, 15, 16, 18, 19].contains i) 39 [true, true, true, true, true, true, true, true, true, true, true, true, true, true, true, true, true, true, true, true, false, false, false, false, false, false, false, false, false, false, false, false, false, false, false, false, false, false, false, false, false, false, false, false, false, false, false, false, false, false, false, false, false, false, false, false, false, false, false] (by kernel_rfl) ?_
    refine acan1_n rfl rfl rfl rfl (n_not rfl rfl) ?_
    refine xM rfl rfl rfl rfl rfl ?_
    refine acan1_split (fun hs => ?_) (fun hs => ?_)
    ·have h8 : sB1 t s = false := by simpa [sB1] using hs
     refine acan1_skip rfl rfl rfl ?_
     refine acan1_skip rfl rfl rfl ?_
     refine acan1_skip rfl rfl rfl ?_
     refine acan1_skip rfl rfl rfl ?_
     refine acan1_skip rfl rfl rfl ?_
     refine acan1_skip rfl rfl rfl ?_
     refine acan1_skip rfl rfl rfl ?_
     refine acan1_skip rfl rfl rfl ?_
     refine acan1_skip rfl rfl rfl ?_
     refine acan1_skip rfl rfl rfl ?_
     refine acan1_skip rfl rfl rfl ?_
     refine acan1_nil ?_
     refine aany_step [20] (by kernel_rfl) (by simp) ?_
     refine aeach_cons ?_ ?_
     ·refine aone_skip rfl rfl rfl ?_
      refine aany_quiet [(21, none), (22, none), (23, none), (24, none), (25, none), (26, none), (27, none), (28, none), (29, none), (30, none), (31, none), (32, none), (33, none), (34, none), (35, none), (36, none)] (fun i => [21, 22, 23, 24, 26, 28, 29, 31, 33, 34, 36].contains i) 22 [true, true, true, true, true, true, true, true, true, true, true, true, true, true, true, true, true, true, true, true, true, true, true, true, true, true, true, true, true, true, true, true, true, true, true, true, true, false, false, false, false, false, false, false, false, false, false, false, false, false, false, false, false, false, false, false, false, false, false] (by kernel_rfl) ?_
      refine acan1_skip rfl rfl rfl ?_
      refine acan1_n rfl rfl rfl rfl (n_pt rfl rfl (by constructor)) ?_
      refine xM rfl rfl rfl rfl rfl ?_
      refine acan1_skip rfl rfl rfl ?_
      refine acan1_skip rfl rfl rfl ?_
      refine acan1_skip rfl rfl rfl ?_
      refine acan1_skip rfl rfl rfl ?_
      refine acan1_skip rfl rfl rfl ?_
      refine acan1_skip rfl rfl rfl ?_
      refine acan1_skip rfl rfl rfl ?_
      refine acan1_skip rfl rfl rfl ?_
      refine acan1_skip rfl rfl rfl ?_
      refine acan1_skip rfl rfl rfl ?_
      refine acan1_skip rfl rfl rfl ?_
      refine acan1_skip rfl rfl rfl ?_
      refine acan1_skip rfl rfl rfl ?_
      refine acan1_nil ?_
      refine aany_step [37] (by kernel_rfl) (by simp) ?_
      refine aeach_cons ?_ ?_
      ·refine aone_skip rfl rfl rfl ?_
       refine aany_quiet [(38, none), (39, none), (40, none), (41, none), (42, none)] (fun i => [38, 39, 40, 41].contains i) 16 [true, true, true, true, true, true, true, true, true, true, true, true, true, true, true, true, true, true, true, true, true, true, true, true, true, true, true, true, true, true, true, true, true, true, true, true, true, true, true, true, true, true, true, false, false, false, false, false, false, false, false, false, false, false, false, false, false, false, false] (by kernel_rfl) ?_
       refine acan1_skip rfl rfl rfl ?_
       refine acan1_n rfl rfl rfl rfl (n_pt rfl rfl (by constructor)) ?_
       refine xM rfl rfl rfl rfl rfl ?_
       refine acan1_skip rfl rfl rfl ?_
       refine acan1_skip rfl rfl rfl ?_
       refine acan1_nil ?_
       refine aany_step [43] (by kernel_rfl) (by simp) ?_
       refine aeach_cons ?_ ?_
       ·refine aone_skip rfl rfl rfl ?_
        refine aany_quiet [(44, none), (45, none), (46, none), (47, none), (48, none), (49, none), (50, none), (51, none), (52, none), (53, none), (54, none), (55, none)] (fun i => [44, 45, 46, 47, 49, 51, 53, 54, 55].contains i) 3 [true, true, true, true, true, true, true, true, true, true, true, true, true, true, true, true, true, true, true, true, true, true, true, true, true, true, true, true, true, true, true, true, true, true, true, true, true, true, true, true, true, true, true, true, true, true, true, true, true, true, true, true, true, true, true, true, false, false, false] (by kernel_rfl) ?_
        refine acan1_skip rfl rfl rfl ?_
        refine acan1_n rfl rfl rfl rfl (n_pt rfl rfl (by constructor)) ?_
        refine xM rfl rfl rfl rfl rfl ?_
        refine acan1_skip rfl rfl rfl ?_
        refine acan1_skip rfl rfl rfl ?_
        refine acan1_skip rfl rfl rfl ?_
        refine acan1_skip rfl rfl rfl ?_
        refine acan1_skip rfl rfl rfl ?_
        refine acan1_skip rfl rfl rfl ?_
        refine acan1_skip rfl rfl rfl ?_
        refine acan1_skip rfl rfl rfl ?_
        refine acan1_skip rfl rfl rfl ?_
        refine acan1_nil ?_
        refine aany_step [56] (by kernel_rfl) (by simp) ?_
        refine aeach_cons ?_ ?_
        ·refine aone_skip rfl rfl rfl ?_
         refine aany_quiet [(57, none), (58, none)] (fun i => [57, 58].contains i) 0 [true, true, true, true, true, true, true, true, true, true, true, true, true, true, true, true, true, true, true, true, true, true, true, true, true, true, true, true, true, true, true, true, true, true, true, true, true, true, true, true, true, true, true, true, true, true, true, true, true, true, true, true, true, true, true, true, true, true, true] (by kernel_rfl) ?_
         refine acan1_skip rfl rfl rfl ?_
         refine acan1_n rfl rfl rfl rfl (n_pt rfl rfl (by constructor)) ?_
         refine acan1_nil ?_
         dsimp only [St.put]
         refine aany_nil (by kernel_rfl) ?_
         refine ⟨_, ?_, ⟨⟨rfl, rfl⟩, zF, zB, zN, zX⟩⟩
         (simp [strB, h8]; done)
        exact aeach_nil
       exact aeach_nil
      exact aeach_nil
     exact aeach_nil
    have h8 : sB1 t s = true := by simpa [sB1] using hs
    have hn1' := h8
    simp only [sB1, inB_true] at hn1'
    obtain ⟨c, hcx⟩ : ∃ c, t[s.ch.toNat]? = some c := some_of_lt (by omega)
    have hnl : nlines t s.ch = c.lines.length := by simp [nlines, hcx]
    have hll := (hl3 c (mem_of_get hcx)).2.1
    have hch : s.ch = ((s.ch.toNat : Nat) : Int) := by omega
    refine acan1_n rfl rfl rfl rfl (n_fieldAddr' rfl rfl rfl) ?_
    try dsimp only [St.put]
    refine acan1_s rfl rfl rfl rfl (s_load rfl rfl) ?_
    refine acan1_n rfl rfl rfl rfl (n_fieldAddr' rfl rfl rfl) ?_
    try dsimp only [St.put]
    refine acan1_s rfl rfl rfl rfl (s_load rfl rfl) ?_
    refine acan1_n rfl rfl rfl rfl (n_fieldAddr' rfl rfl rfl) ?_
    try dsimp only [St.put]
    refine acan1_s rfl rfl rfl rfl (s_load rfl rfl) ?_
    try dsimp only [St.put]
    refine acan1_n rfl rfl rfl rfl (n_indexAddr rfl rfl rfl (by omega) (map_get (by assumption)) (Enc.len _)) ?_
    refine acan1_n rfl rfl rfl rfl (n_fieldAddr' rfl rfl rfl) ?_
    try dsimp only [St.put]
    refine acan1_s rfl rfl rfl rfl (s_load rfl rfl) ?_
    refine acan1_n rfl rfl rfl rfl (n_len' rfl rfl (List.length_map _)) ?_
    refine acan1_n rfl rfl rfl rfl (n_sub rfl rfl rfl (by omega)) ?_
    refine acan1_nil ?_
    refine aany_step [20] (by kernel_rfl) (by simp) ?_
    refine aeach_cons ?_ ?_
    ·try dsimp only [St.put]
     refine aone_e rfl rfl rfl (e_call_pure rfl rfl rfl (within2_pure _ _ _) ?_)
     refine aany_quiet [(21, none), (22, none), (23, none), (24, none), (25, none), (26, none), (27, none), (28, none), (29, none), (30, none), (31, none), (32, none), (33, none), (34, none), (35, none), (36, none)] (fun i => [21, 22, 23, 24, 26, 28, 29, 31, 33, 34, 36].contains i) 22 [true, true, true, true, true, true, true, true, true, true, true, true, true, true, true, true, true, true, true, true, true, true, true, true, true, true, true, true, true, true, true, true, true, true, true, true, true, false, false, false, false, false, false, false, false, false, false, false, false, false, false, false, false, false, false, false, false, false, false] (by kernel_rfl) ?_
     refine acan1_n rfl rfl rfl rfl (n_not rfl rfl) ?_
     refine acan1_n rfl rfl rfl rfl (n_pf rfl rfl (by constructor)) ?_
     refine xM rfl rfl rfl rfl rfl ?_
     refine acan1_split (fun hs => ?_) (fun hs => ?_)
     ·have h23 : inB s.fr 0 ((nlines t s.ch : Int) - 1) = false := by rw [hnl]; simpa using hs
      refine acan1_skip rfl rfl rfl ?_
      refine acan1_skip rfl rfl rfl ?_
      refine acan1_skip rfl rfl rfl ?_
      refine acan1_skip rfl rfl rfl ?_
      refine acan1_skip rfl rfl rfl ?_
      refine acan1_skip rfl rfl rfl ?_
      refine acan1_skip rfl rfl rfl ?_
      refine acan1_skip rfl rfl rfl ?_
      refine acan1_skip rfl rfl rfl ?_
      refine acan1_skip rfl rfl rfl ?_
      refine acan1_skip rfl rfl rfl ?_
      refine acan1_skip rfl rfl rfl ?_
      refine acan1_skip rfl rfl rfl ?_
      refine acan1_nil ?_
      refine aany_step [37] (by kernel_rfl) (by simp) ?_
      refine aeach_cons ?_ ?_
      ·refine aone_skip rfl rfl rfl ?_
       refine aany_quiet [(38, none), (39, none), (40, none), (41, none), (42, none)] (fun i => [38, 39, 40, 41].contains i) 16 [true, true, true, true, true, true, true, true, true, true, true, true, true, true, true, true, true, true, true, true, true, true, true, true, true, true, true, true, true, true, true, true, true, true, true, true, true, true, true, true, true, true, true, false, false, false, false, false, false, false, false, false, false, false, false, false, false, false, false] (by kernel_rfl) ?_
       refine acan1_skip rfl rfl rfl ?_
       refine acan1_n rfl rfl rfl rfl (n_pt rfl rfl (by constructor)) ?_
       refine xM rfl rfl rfl rfl rfl ?_
       refine acan1_skip rfl rfl rfl ?_
       refine acan1_skip rfl rfl rfl ?_
       refine acan1_nil ?_
       refine aany_step [43] (by kernel_rfl) (by simp) ?_
       refine aeach_cons ?_ ?_
       ·refine aone_skip rfl rfl rfl ?_
        refine aany_quiet [(44, none), (45, none), (46, none), (47, none), (48, none), (49, none), (50, none), (51, none), (52, none), (53, none), (54, none), (55, none)] (fun i => [44, 45, 46, 47, 49, 51, 53, 54, 55].contains i) 3 [true, true, true, true, true, true, true, true, true, true, true, true, true, true, true, true, true, true, true, true, true, true, true, true, true, true, true, true, true, true, true, true, true, true, true, true, true, true, true, true, true, true, true, true, true, true, true, true, true, true, true, true, true, true, true, true, false, false, false] (by kernel_rfl) ?_
        refine acan1_skip rfl rfl rfl ?_
        refine acan1_n rfl rfl rfl rfl (n_pt rfl rfl (by constructor)) ?_
        refine xM rfl rfl rfl rfl rfl ?_
        refine acan1_skip rfl rfl rfl ?_
        refine acan1_skip rfl rfl rfl ?_
        refine acan1_skip rfl rfl rfl ?_
        refine acan1_skip rfl rfl rfl ?_
        refine acan1_skip rfl rfl rfl ?_
        refine acan1_skip rfl rfl rfl ?_
        refine acan1_skip rfl rfl rfl ?_
        refine acan1_skip rfl rfl rfl ?_
        refine acan1_skip rfl rfl rfl ?_
        refine acan1_nil ?_
        refine aany_step [56] (by kernel_rfl) (by simp) ?_
        refine aeach_cons ?_ ?_
        ·refine aone_skip rfl rfl rfl ?_
         refine aany_quiet [(57, none), (58, none)] (fun i => [57, 58].contains i) 0 [true, true, true, true, true, true, true, true, true, true, true, true, true, true, true, true, true, true, true, true, true, true, true, true, true, true, true, true, true, true, true, true, true, true, true, true, true, true, true, true, true, true, true, true, true, true, true, true, true, true, true, true, true, true, true, true, true, true, true] (by kernel_rfl) ?_
         refine acan1_skip rfl rfl rfl ?_
         refine acan1_n rfl rfl rfl rfl (n_pt rfl rfl (by constructor)) ?_
         refine acan1_nil ?_
         dsimp only [St.put]
         refine aany_nil (by kernel_rfl) ?_
         refine ⟨_, ?_, ⟨⟨rfl, rfl⟩, zF, zB, zN, zX⟩⟩
         (simp [strB, sB2, h8, h23]; done)
        exact aeach_nil
       exact aeach_nil
      exact aeach_nil
     have h23 : inB s.fr 0 ((nlines t s.ch : Int) - 1) = true := by rw [hnl]; simpa using hs
     have hn2' := h23
     simp only [inB_true] at hn2'
     refine acan1_n rfl rfl rfl rfl (n_fieldAddr' rfl rfl rfl) ?_
     try dsimp only [St.put]
     refine acan1_s rfl rfl rfl rfl (s_load rfl rfl) ?_
     refine acan1_n rfl rfl rfl rfl (n_fieldAddr' rfl rfl rfl) ?_
     try dsimp only [St.put]
     refine acan1_s rfl rfl rfl rfl (s_load rfl rfl) ?_
     refine acan1_n rfl rfl rfl rfl (n_add rfl rfl rfl (by omega)) ?_
     refine acan1_n rfl rfl rfl rfl (n_fieldAddr' rfl rfl rfl) ?_
     try dsimp only [St.put]
     refine acan1_s rfl rfl rfl rfl (s_load rfl rfl) ?_
     refine acan1_n rfl rfl rfl rfl (n_fieldAddr' rfl rfl rfl) ?_
     try dsimp only [St.put]
     refine acan1_s rfl rfl rfl rfl (s_load rfl rfl) ?_
     try dsimp only [St.put]
     refine acan1_n rfl rfl rfl rfl (n_indexAddr rfl rfl rfl (by omega) (map_get (by assumption)) (Enc.len _)) ?_
     refine acan1_n rfl rfl rfl rfl (n_fieldAddr' rfl rfl rfl) ?_
     try dsimp only [St.put]
     refine acan1_s rfl rfl rfl rfl (s_load rfl rfl) ?_
     refine acan1_n rfl rfl rfl rfl (n_len' rfl rfl (List.length_map _)) ?_
     refine acan1_nil ?_
     refine aany_step [37] (by kernel_rfl) (by simp) ?_
     refine aeach_cons ?_ ?_
     ·try dsimp only [St.put]
      refine aone_e rfl rfl rfl (e_call_pure rfl rfl rfl (within2_pure _ _ _) ?_)
      refine aany_quiet [(38, none), (39, none), (40, none), (41, none), (42, none)] (fun i => [38, 39, 40, 41].contains i) 16 [true, true, true, true, true, true, true, true, true, true, true, true, true, true, true, true, true, true, true, true, true, true, true, true, true, true, true, true, true, true, true, true, true, true, true, true, true, true, true, true, true, true, true, false, false, false, false, false, false, false, false, false, false, false, false, false, false, false, false] (by kernel_rfl) ?_
      refine acan1_n rfl rfl rfl rfl (n_not rfl rfl) ?_
      refine acan1_n rfl rfl rfl rfl (n_pf rfl rfl (by constructor)) ?_
      refine xM rfl rfl rfl rfl rfl ?_
      refine acan1_split (fun hs => ?_) (fun hs => ?_)
      ·have h40 : inB s.tt (s.fr + 1) (nlines t s.ch) = false := by rw [hnl]; simpa using hs
       refine acan1_skip rfl rfl rfl ?_
       refine acan1_skip rfl rfl rfl ?_
       refine acan1_nil ?_
       refine aany_step [43] (by kernel_rfl) (by simp) ?_
       refine aeach_cons ?_ ?_
       ·refine aone_skip rfl rfl rfl ?_
        refine aany_quiet [(44, none), (45, none), (46, none), (47, none), (48, none), (49, none), (50, none), (51, none), (52, none), (53, none), (54, none), (55, none)] (fun i => [44, 45, 46, 47, 49, 51, 53, 54, 55].contains i) 3 [true, true, true, true, true, true, true, true, true, true, true, true, true, true, true, true, true, true, true, true, true, true, true, true, true, true, true, true, true, true, true, true, true, true, true, true, true, true, true, true, true, true, true, true, true, true, true, true, true, true, true, true, true, true, true, true, false, false, false] (by kernel_rfl) ?_
        refine acan1_skip rfl rfl rfl ?_
        refine acan1_n rfl rfl rfl rfl (n_pt rfl rfl (by constructor)) ?_
        refine xM rfl rfl rfl rfl rfl ?_
        refine acan1_skip rfl rfl rfl ?_
        refine acan1_skip rfl rfl rfl ?_
        refine acan1_skip rfl rfl rfl ?_
        refine acan1_skip rfl rfl rfl ?_
        refine acan1_skip rfl rfl rfl ?_
        refine acan1_skip rfl rfl rfl ?_
        refine acan1_skip rfl rfl rfl ?_
        refine acan1_skip rfl rfl rfl ?_
        refine acan1_skip rfl rfl rfl ?_
        refine acan1_nil ?_
        refine aany_step [56] (by kernel_rfl) (by simp) ?_
        refine aeach_cons ?_ ?_
        ·refine aone_skip rfl rfl rfl ?_
         refine aany_quiet [(57, none), (58, none)] (fun i => [57, 58].contains i) 0 [true, true, true, true, true, true, true, true, true, true, true, true, true, true, true, true, true, true, true, true, true, true, true, true, true, true, true, true, true, true, true, true, true, true, true, true, true, true, true, true, true, true, true, true, true, true, true, true, true, true, true, true, true, true, true, true, true, true, true] (by kernel_rfl) ?_
         refine acan1_skip rfl rfl rfl ?_
         refine acan1_n rfl rfl rfl rfl (n_pt rfl rfl (by constructor)) ?_
         refine acan1_nil ?_
         dsimp only [St.put]
         refine aany_nil (by kernel_rfl) ?_
         refine ⟨_, ?_, ⟨⟨rfl, rfl⟩, zF, zB, zN, zX⟩⟩
         (simp [strB, sB2, h8, h23, h40]; done)
        exact aeach_nil
       exact aeach_nil
      have h40 : inB s.tt (s.fr + 1) (nlines t s.ch) = true := by rw [hnl]; simpa using hs
      have hn3' := h40
      simp only [inB_true] at hn3'
      refine acan1_n rfl rfl rfl rfl (n_fieldAddr' rfl rfl rfl) ?_
      try dsimp only [St.put]
      refine acan1_s rfl rfl rfl rfl (s_load rfl rfl) ?_
      refine acan1_nil ?_
      refine aany_step [43] (by kernel_rfl) (by simp) ?_
      refine aeach_cons ?_ ?_
      ·try dsimp only [St.put]
       refine aone_e rfl rfl rfl (e_call_pure rfl rfl rfl (within2_pure _ _ _) ?_)
       refine aany_quiet [(44, none), (45, none), (46, none), (47, none), (48, none), (49, none), (50, none), (51, none), (52, none), (53, none), (54, none), (55, none)] (fun i => [44, 45, 46, 47, 49, 51, 53, 54, 55].contains i) 3 [true, true, true, true, true, true, true, true, true, true, true, true, true, true, true, true, true, true, true, true, true, true, true, true, true, true, true, true, true, true, true, true, true, true, true, true, true, true, true, true, true, true, true, true, true, true, true, true, true, true, true, true, true, true, true, true, false, false, false] (by kernel_rfl) ?_
       refine acan1_n rfl rfl rfl rfl (n_not rfl rfl) ?_
       refine acan1_n rfl rfl rfl rfl (n_pf rfl rfl (by constructor)) ?_
       refine xM rfl rfl rfl rfl rfl ?_
       refine acan1_split (fun hs => ?_) (fun hs => ?_)
       ·have h46 : inB s.au 1 999 = false := by simpa using hs
        refine acan1_skip rfl rfl rfl ?_
        refine acan1_skip rfl rfl rfl ?_
        refine acan1_skip rfl rfl rfl ?_
        refine acan1_skip rfl rfl rfl ?_
        refine acan1_skip rfl rfl rfl ?_
        refine acan1_skip rfl rfl rfl ?_
        refine acan1_skip rfl rfl rfl ?_
        refine acan1_skip rfl rfl rfl ?_
        refine acan1_skip rfl rfl rfl ?_
        refine acan1_nil ?_
        refine aany_step [56] (by kernel_rfl) (by simp) ?_
        refine aeach_cons ?_ ?_
        ·refine aone_skip rfl rfl rfl ?_
         refine aany_quiet [(57, none), (58, none)] (fun i => [57, 58].contains i) 0 [true, true, true, true, true, true, true, true, true, true, true, true, true, true, true, true, true, true, true, true, true, true, true, true, true, true, true, true, true, true, true, true, true, true, true, true, true, true, true, true, true, true, true, true, true, true, true, true, true, true, true, true, true, true, true, true, true, true, true] (by kernel_rfl) ?_
         refine acan1_skip rfl rfl rfl ?_
         refine acan1_n rfl rfl rfl rfl (n_pt rfl rfl (by constructor)) ?_
         refine acan1_nil ?_
         dsimp only [St.put]
         refine aany_nil (by kernel_rfl) ?_
         refine ⟨_, ?_, ⟨⟨rfl, rfl⟩, zF, zB, zN, zX⟩⟩
         (simp [strB, sB2, sB3, h8, h23, h40, h46]; done)
        exact aeach_nil
       have h46 : inB s.au 1 999 = true := by simpa using hs
       refine acan1_n rfl rfl rfl rfl (n_fieldAddr' rfl rfl rfl) ?_
       try dsimp only [St.put]
       refine acan1_s rfl rfl rfl rfl (s_load rfl rfl) ?_
       refine acan1_n rfl rfl rfl rfl (n_fieldAddr' rfl rfl rfl) ?_
       try dsimp only [St.put]
       refine acan1_s rfl rfl rfl rfl (s_load rfl rfl) ?_
       refine acan1_n rfl rfl rfl rfl (n_fieldAddr' rfl rfl rfl) ?_
       try dsimp only [St.put]
       refine acan1_s rfl rfl rfl rfl (s_load rfl rfl) ?_
       refine acan1_n rfl rfl rfl rfl (n_sub rfl rfl rfl (by omega)) ?_
       refine acan1_n rfl rfl rfl rfl (n_sub rfl rfl rfl (by omega)) ?_
       refine acan1_n rfl rfl rfl rfl (n_add rfl rfl rfl (by omega)) ?_
       refine acan1_nil ?_
       refine aany_step [56] (by kernel_rfl) (by simp) ?_
       refine aeach_cons ?_ ?_
       ·try dsimp only [St.put]
        refine aone_e rfl rfl rfl (e_call_pure rfl rfl rfl (within2_pure _ _ _) ?_)
        refine aany_quiet [(57, none), (58, none)] (fun i => [57, 58].contains i) 0 [true, true, true, true, true, true, true, true, true, true, true, true, true, true, true, true, true, true, true, true, true, true, true, true, true, true, true, true, true, true, true, true, true, true, true, true, true, true, true, true, true, true, true, true, true, true, true, true, true, true, true, true, true, true, true, true, true, true, true] (by kernel_rfl) ?_
        refine acan1_n rfl rfl rfl rfl (n_not rfl rfl) ?_
        refine acan1_n rfl rfl rfl rfl (n_pf rfl rfl (by constructor)) ?_
        refine acan1_nil ?_
        dsimp only [St.put]
        refine aany_nil (by kernel_rfl) ?_
        refine ⟨_, ?_, ⟨⟨rfl, rfl⟩, zF, zB, zN, zX⟩⟩
        (simp [strB, sB2, sB3, h8, h23, h40, h46]; done)
       exact aeach_nil
      exact aeach_nil
     exact aeach_nil
    exact aeach_nil
   exact aeach_nil
  rintro b hst
  dsimp only at hst ⊢
  refine aw_cond rfl (fun hc => ?_) (fun hc => ?_)
  ·have hst' : strB t s = false := by rw [hc] at hst; simpa using hst.symm
   refine yS fun _ K13 => ?_
   refine yR ?_
   refine yA rfl rfl ?_
   refine yN ?_
   dsimp only [St.put]
   refine K13 _ ?_
   refine aw_ret ?_
   refine ends_1 rfl (by constructor) zN zS ?_
   exact vb (by simp [editionB, all_false_of hx hst'])
  have hst' : strB t s = true := by rw [hc] at hst; simpa using hst.symm
  refine aw_skip ?_
  refine K10 _ ?_
  refine yR ?_
  refine yM rfl rfl ?_
  refine aops_n rfl (n_add rfl rfl rfl (by omega)) ?_
  refine yA rfl rfl ?_
  refine yN ?_
  dsimp only [St.put]
  exact ⟨k + 1, by omega, ⟨by omega, by rw [all_take hx, hI.2, hst']; rfl⟩, ⟨⟨rfl, rfl⟩, zF, zB, zN, zX⟩⟩
 try replace hc := of_decide_eq_false hc
 refine aw_exit ?_
 refine K6 _ ?_
 refine yS fun _ K14 => ?_
 refine yR ?_
 refine yA rfl rfl ?_
 refine yN ?_
 dsimp only [St.put]
 refine K14 _ ?_
 refine aw_ret ?_
 refine ends_1 rfl (by constructor) zN zS ?_
 exact vb (by
  have h1 := hI.2
  rw [take_all (by omega)] at h1
  simp [editionB, hid, hln, h1])
theorem Check1_pure (t : TextD) : Pure Tryz.prog 35 [textC t] (.v (.int .i64 (textEr t))) := by
 refine pure_of_body Tryz.func35 rfl (fun m => .v) fun G nx => ?_
 simp only [Tryz.ntmps35, List.length_cons, List.length_nil, Nat.reduceAdd, Nat.reduceSub]
 refine aw_lt fun hlt => ?_
 dsimp only at hlt
 refine yS fun _ K1 => ?_
 refine yR ?_
 try dsimp only [St.put]
 refine yB rfl rfl rfl ?_
 refine yA rfl rfl ?_
 refine yN ?_
 dsimp only [St.put]
 refine K1 _ ?_
 refine yS fun _ K2 => ?_
 refine yS fun _ K3 => ?_
 refine yR ?_
 try dsimp only [St.put]
 refine aops_s rfl (s_load_agg' rfl rfl rfl) ?_
 try dsimp only [St.put]
 refine aops_e rfl (e_call_pure rfl rfl rfl (Text_pure _) ?_)
 refine aops_n rfl (n_not rfl rfl) ?_
 refine yN ?_
 dsimp only [St.put]
 refine K3 _ ?_
 refine aw_cond rfl (fun hc => ?_) (fun hc => ?_)
 ·try replace hc := of_decide_eq_true hc
  refine yS fun _ K4 => ?_
  refine yR ?_
  refine yA rfl rfl ?_
  refine yN ?_
  dsimp only [St.put]
  refine K4 _ ?_
  refine aw_ret ?_
  refine ends_1 rfl (by constructor) zN zS ?_
  exact vi (by simp at hc; simp [textEr, hc])
 try replace hc := of_decide_eq_false hc
 refine aw_skip ?_
 refine K2 _ ?_
 refine yS fun _ K5 => ?_
 refine yR ?_
 refine yA rfl rfl ?_
 refine yN ?_
 dsimp only [St.put]
 refine K5 _ ?_
 refine aw_ret ?_
 refine ends_1 rfl (by constructor) zN zS ?_
 exact vi (by simp at hc; simp [textEr, hc])
theorem Check2_pure (t : TextD) (e : EditionD) : Pure Tryz.prog 32 [textC t, val e] (.v (.int .i64 (checkEr t e))) := by
 refine pure_of_body Tryz.func32 rfl (fun m => .v) fun G nx => ?_
 simp only [Tryz.ntmps32, List.length_cons, List.length_nil, Nat.reduceAdd, Nat.reduceSub]
 refine aw_lt fun hlt => ?_
 dsimp only at hlt
 refine yS fun _ K1 => ?_
 refine yR ?_
 try dsimp only [St.put]
 refine yB rfl rfl rfl ?_
 try dsimp only [St.put]
 refine yB rfl rfl rfl ?_
 refine yA rfl rfl ?_
 refine yN ?_
 dsimp only [St.put]
 refine K1 _ ?_
 refine yS fun _ K2 => ?_
 refine yS fun _ K3 => ?_
 refine yR ?_
 try dsimp only [St.put]
 refine aops_s rfl (s_load_agg' rfl rfl rfl) ?_
 try dsimp only [St.put]
 refine aops_e rfl (e_call_pure rfl rfl rfl (Check1_pure _) ?_)
 refine yA rfl rfl ?_
 refine yN ?_
 dsimp only [St.put]
 refine K3 _ ?_
 refine yS fun _ K4 => ?_
 refine yR ?_
 refine yM rfl rfl ?_
 refine aops_n rfl (n_neq rfl rfl rfl) ?_
 refine yN ?_
 dsimp only [St.put]
 refine K4 _ ?_
 refine aw_cond rfl (fun hc => ?_) (fun hc => ?_)
 ·have htx : textB t = false := by
   cases h : textB t
   ·rfl
   simp [textEr, h] at hc
  refine yS fun _ K5 => ?_
  refine yR ?_
  refine yM rfl rfl ?_
  refine yA rfl rfl ?_
  refine yN ?_
  dsimp only [St.put]
  refine K5 _ ?_
  refine aw_ret ?_
  refine ends_1 rfl (by constructor) zN zS ?_
  exact vi (by simp [checkEr, textEr, htx])
 have htx : textB t = true := by
  cases h : textB t
  ·simp [textEr, h] at hc
  rfl
 refine aw_skip ?_
 refine K2 _ ?_
 refine yS fun _ K6 => ?_
 refine yS fun _ K7 => ?_
 refine yR ?_
 try dsimp only [St.put]
 refine aops_s rfl (s_load_agg' rfl rfl rfl) ?_
 refine yE rfl rfl rfl ?_
 try dsimp only [St.put]
 refine aops_e rfl (e_call_pure rfl rfl rfl (Edition_pure _ _ htx) ?_)
 refine aops_n rfl (n_not rfl rfl) ?_
 refine yN ?_
 dsimp only [St.put]
 refine K7 _ ?_
 refine aw_cond rfl (fun hc => ?_) (fun hc => ?_)
 ·try replace hc := of_decide_eq_true hc
  refine yS fun _ K8 => ?_
  refine yR ?_
  refine yA rfl rfl ?_
  refine yN ?_
  dsimp only [St.put]
  refine K8 _ ?_
  refine aw_ret ?_
  refine ends_1 rfl (by constructor) zN zS ?_
  exact vi (by simp at hc; simp [checkEr, htx, hc])
 try replace hc := of_decide_eq_false hc
 refine aw_skip ?_
 refine K6 _ ?_
 refine yS fun _ K9 => ?_
 refine yR ?_
 refine yA rfl rfl ?_
 refine yN ?_
 dsimp only [St.put]
 refine K9 _ ?_
 refine aw_ret ?_
 refine ends_1 rfl (by constructor) zN zS ?_
 exact vi (by simp at hc; simp [checkEr, htx, hc])
end Go.Proofs.YtjjklfgpffgnfabGreatDoor
