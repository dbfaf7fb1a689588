/-
 Contracts of the reference's functions of charts: valid editions, what clashes.
-/
import Derived.Test.YtjjklfgpffgnfabGreatDoorCfFuncs
import Derived.Test.YtjjklfgpffgnfabGreatDoorGrpA
namespace Go.AB
open Go Go.RowKit
open Go.PB (bh af PlaceD)
instance : FlatV StretchD := ⟨fun x => [.int .i64 x.ch, .int .i64 x.fr, .int .i64 x.tt, .int .i64 x.au, .int .i64 x.fi], fun _ => rfl⟩
end Go.AB
namespace Go.Proofs.YtjjklfgpffgnfabGreatDoor
set_option maxRecDepth 10000
open Go.RowKit Go.AB
open Go.AB.Enc (cells)
open Go.PB (bh af PlaceD ar bp cj)
theorem uge : Tryz.prog.underlying 28 = some (.struct (Tryz.prog.fieldsOf 28)) := by kernel_rfl
theorem uhv : Tryz.prog.stoodInHeld 28 = false := by kernel_rfl
instance : EqT Tryz.prog 28 StretchD where
 guard op w x y xs ys := run_eqGuard_agg w op _ x y xs ys (by kernel_rfl)
 same w x y := by
  obtain ⟨a, b, c, d, e⟩ := x
  obtain ⟨a', b', c', d', e'⟩ := y
  simp only [FlatV.vals]
  rw [run_equalIn_agg _ _ _ _ _ uge uhv]
  by_cases h1 : a = a' <;> by_cases h2 : b = b' <;> by_cases h3 : c = c' <;> by_cases h4 : d = d' <;> by_cases h5 : e = e' <;> simp [go_sem, h1, h2, h3, h4, h5]

theorem p9 (n lo hi : Int) : ce Tryz.prog 95 [.v (.int .i64 n), .v (.int .i64 lo), .v (.int .i64 hi)] (.v (.bool (inB n lo hi))) := by
 refine cv Tryz.func95 rfl (fun m => .v) fun G nx => ?_
 simp only [Tryz.ntmps95, List.length_cons, List.length_nil, Nat.reduceAdd, Nat.reduceSub]
 refine bf fun hlt => ?_
 dsimp only at hlt
 refine yS fun _ K1 => ?_
 refine yR ?_
 refine yA rfl rfl ?_
 refine yN ?_
 dsimp only [St.put]
 refine K1 _ ?_
 refine yS fun _ K2 => ?_
 refine yR ?_
 refine yM rfl rfl ?_
 refine yM rfl rfl ?_
 refine aa rfl (ni rfl rfl rfl) ?_
 refine et (fun hs => ?_) (fun hs => ?_)
 ·try replace hs := of_decide_eq_true hs
  refine yM rfl rfl ?_
  refine yM rfl rfl ?_
  refine yM rfl rfl ?_
  refine aa rfl (xr rfl rfl rfl) ?_
  refine aa rfl (co rfl rfl (by constructor)) ?_
  refine yA rfl rfl ?_
  refine yN ?_
  dsimp only [St.put]
  refine K2 _ ?_
  refine aj ?_
  refine ay rfl (by constructor) zN zS ?_
  exact vb (by simp [inB, hs]; try omega)
 try replace hs := of_decide_eq_false hs
 refine yM rfl rfl ?_
 refine yK rfl ?_
 refine yK rfl ?_
 refine yK rfl ?_
 refine aa rfl (dh rfl rfl (by constructor)) ?_
 refine yA rfl rfl ?_
 refine yN ?_
 dsimp only [St.put]
 refine K2 _ ?_
 refine aj ?_
 refine ay rfl (by constructor) zN zS ?_
 exact vb (by simp [inB, hs]; try omega)
theorem url (a m b n : Int) (h1 : I64 (b + n)) (h2 : I64 (a + m)) : ce Tryz.prog 140 [.v (.int .i64 a), .v (.int .i64 m), .v (.int .i64 b), .v (.int .i64 n)] (.v (.bool (lu a m b n))) := by
 refine cv Tryz.func140 rfl (fun m => .v) fun G nx => ?_
 simp only [Tryz.ntmps140, List.length_cons, List.length_nil, Nat.reduceAdd, Nat.reduceSub]
 refine bf fun hlt => ?_
 dsimp only at hlt
 unfold I64 at h1 h2
 refine yS fun _ K1 => ?_
 refine yR ?_
 refine yA rfl rfl ?_
 refine yN ?_
 dsimp only [St.put]
 refine K1 _ ?_
 refine yS fun _ K2 => ?_
 refine yR ?_
 refine yM rfl rfl ?_
 refine yM rfl rfl ?_
 refine yM rfl rfl ?_
 refine aa rfl (ca rfl rfl rfl (by omega)) ?_
 refine aa rfl (ck rfl rfl rfl) ?_
 refine yM rfl rfl ?_
 refine et (fun hs => ?_) (fun hs => ?_)
 ·try replace hs := of_decide_eq_true hs
  refine yM rfl rfl ?_
  refine yM rfl rfl ?_
  refine yM rfl rfl ?_
  refine aa rfl (ca rfl rfl rfl (by omega)) ?_
  refine aa rfl (ck rfl rfl rfl) ?_
  refine aa rfl (co rfl rfl (by constructor)) ?_
  refine yA rfl rfl ?_
  refine yN ?_
  dsimp only [St.put]
  refine K2 _ ?_
  refine aj ?_
  refine ay rfl (by constructor) zN zS ?_
  exact vb (by simp [lu]; try omega)
 try replace hs := of_decide_eq_false hs
 refine yK rfl ?_
 refine yK rfl ?_
 refine yK rfl ?_
 refine yK rfl ?_
 refine yK rfl ?_
 refine aa rfl (dh rfl rfl (by constructor)) ?_
 refine yA rfl rfl ?_
 refine yN ?_
 dsimp only [St.put]
 refine K2 _ ?_
 refine aj ?_
 refine ay rfl (by constructor) zN zS ?_
 exact vb (by simp [lu]; try omega)
theorem ure (e : aw) : ce Tryz.prog 69 [val e] (.v (.bool (decide (20 < e.ss.length)))) := by
 refine cv Tryz.func69 rfl (fun m => .v) fun G nx => ?_
 simp only [Tryz.ntmps69, List.length_cons, List.length_nil, Nat.reduceAdd, Nat.reduceSub]
 refine bf fun hlt => ?_
 dsimp only at hlt
 refine yS fun _ K1 => ?_
 refine yR ?_
 try dsimp only [St.put]
 refine yB rfl rfl rfl ?_
 refine yA rfl rfl ?_
 refine yN ?_
 dsimp only [St.put]
 refine K1 _ ?_
 refine yS fun _ K2 => ?_
 refine yR ?_
 refine yF rfl rfl rfl rfl ?_
 refine yL rfl rfl rfl ?_
 refine aa rfl (bx rfl rfl (List.length_map _)) ?_
 refine aa rfl (io rfl rfl rfl) ?_
 refine yA rfl rfl ?_
 refine yN ?_
 dsimp only [St.put]
 refine K2 _ ?_
 refine aj ?_
 refine ay rfl (by constructor) zN zS ?_
 exact vb (by simp; omega)
theorem urf (t : af) (e : aw) (ht : bw t = true) : ce Tryz.prog 71 [b7 t, val e] (.v (.bool (iv t e))) := by
 refine cv Tryz.func71 rfl (fun m => .v) fun G nx => ?_
 simp only [Tryz.ntmps71, List.length_cons, List.length_nil, Nat.reduceAdd, Nat.reduceSub]
 refine bf fun hlt => ?_
 dsimp only at hlt
 refine jn 1 (fun hf => ?_)
 replace hf := unq hf
 have hf0 := hf.len
 obtain ⟨hl1, hl2, hl3⟩ := kh ht
 refine yS fun _ K1 => ?_
 refine yR ?_
 try dsimp only [St.put]
 refine yB rfl rfl rfl ?_
 try dsimp only [St.put]
 refine yB rfl rfl rfl ?_
 refine yA rfl rfl ?_
 refine yN ?_
 dsimp only [St.put]
 refine K1 _ ?_
 refine yS fun _ K2 => ?_
 refine yS fun _ K3 => ?_
 refine yR ?_
 refine yF rfl rfl rfl rfl ?_
 refine yL rfl rfl rfl ?_
 try dsimp only [St.put]
 refine ae rfl (a7 rfl rfl rfl (p9 _ _ _) ?_)
 refine aa rfl (c9 rfl rfl) ?_
 refine yM rfl rfl ?_
 refine et (fun hs => ?_) (fun hs => ?_)
 ·have hid : inB e.id 0 9999 = false := by simpa using hs
  refine yK rfl ?_
  refine yK rfl ?_
  refine yK rfl ?_
  refine yK rfl ?_
  refine aa rfl (co rfl rfl (by constructor)) ?_
  refine yN ?_
  dsimp only [St.put]
  refine K3 _ ?_
  refine ak rfl (fun _ => ?_) (fun h => by cases h)
  skip
  refine yS fun _ K4 => ?_
  refine yR ?_
  refine yA rfl rfl ?_
  refine yN ?_
  dsimp only [St.put]
  refine K4 _ ?_
  refine aj ?_
  refine ay rfl (by constructor) zN zS ?_
  first
  | (refine vb ?_; simp [iv, hid]; done)
  | (have h := of_decide_eq_true (hc : decide _ = true)
     have h2 : ¬ e.ss.length ≤ 12 := by omega
     exact vb (by simp [iv, hid, h2]))
 have hid : inB e.id 0 9999 = true := by simpa using hs
 refine yF rfl rfl rfl rfl ?_
 refine yL rfl rfl rfl ?_
 refine aa rfl (bx rfl rfl (List.length_map _)) ?_
 refine aa rfl (io rfl rfl rfl) ?_
 refine aa rfl (dh rfl rfl (by constructor)) ?_
 refine yN ?_
 dsimp only [St.put]
 refine K3 _ ?_
 refine ak rfl (fun hc => ?_) (fun hc => ?_)
 ·skip
  refine yS fun _ K5 => ?_
  refine yR ?_
  refine yA rfl rfl ?_
  refine yN ?_
  dsimp only [St.put]
  refine K5 _ ?_
  refine aj ?_
  refine ay rfl (by constructor) zN zS ?_
  first
  | (refine vb ?_; simp [iv, hid]; done)
  | (have h := of_decide_eq_true (hc : decide _ = true)
     have h2 : ¬ e.ss.length ≤ 12 := by omega
     exact vb (by simp [iv, hid, h2]))
 have hln : e.ss.length ≤ 12 := by have h := of_decide_eq_false (hc : decide _ = false); omega
 refine aq ?_
 refine K2 _ ?_
 refine yS fun _ K6 => ?_
 refine yS fun _ K7 => ?_
 refine yR ?_
 refine yA rfl rfl ?_
 refine yN ?_
 dsimp only [St.put]
 refine K7 _ ?_
 refine bg ?_
 refine di 6 ?_
 simp only [cx, bi, Nat.reduceAdd, List.getD_cons_zero, List.getD_cons_succ, List.getD_nil, dc, Nat.reduceBEq, cond_true, cond_false]
 refine dv (G) zX ?_
 dsimp only
 refine el (X := Nat) (fun k => k ≤ e.ss.length ∧ (e.ss.take k).all (fu t) = true) (fun k => e.ss.length - k) (fun k => [(5, .v (.int .i64 (k : Int)))]) (fun k G' => G') 0 rfl ?_ ?_ (fun _ _ h => h) ?_ ?_ ?_
 ·exact ⟨by simp, by simp⟩
 ·exact zF
 ·rintro k hI
  exact zL
 ·exact fun _ _ _ _ h => .inl h
 rintro k hI
 dsimp only at hI ⊢
 refine yS fun _ K8 => ?_
 refine yS fun _ K9 => ?_
 refine yR ?_
 refine yM rfl rfl ?_
 refine yF rfl rfl rfl rfl ?_
 refine yL rfl rfl rfl ?_
 refine aa rfl (bx rfl rfl (List.length_map _)) ?_
 refine aa rfl (ck rfl rfl rfl) ?_
 refine yN ?_
 dsimp only [St.put]
 refine K9 _ ?_
 refine ak rfl (fun hc => ?_) (fun hc => ?_)
 ·replace hc := of_decide_eq_true hc
  obtain ⟨s, hx⟩ : ∃ x, e.ss[k]? = some x := dw (by omega)
  have hsf := hf.ss s (e8 hx)
  obtain ⟨f1, f2, f3, f4, f5⟩ := hsf
  unfold I64 at f1 f2 f3 f4 f5
  refine aq ?_
  refine K8 _ ?_
  refine yS fun _ K10 => ?_
  refine bg ?_
  refine yS fun _ K11 => ?_
  refine yR ?_
  refine yF rfl rfl rfl rfl ?_
  refine yL rfl rfl rfl ?_
  refine yM rfl rfl ?_
  refine aa rfl (b8 rfl rfl rfl rfl (cg (by assumption)) (Enc.len _)) ?_
  refine yE rfl rfl rfl ?_
  try dsimp only [St.put]
  refine ae rfl (bj rfl ?_)
  try dsimp only [St.put]
  refine ae rfl (ax rfl rfl rfl zG rfl rfl (by rfl) ?_)
  refine yN ?_
  dsimp only [St.put]
  refine K11 _ ?_
  refine cw (i := 6) rfl zG (by first | exact List.cons_ne_nil _ _ | (simp; done) | (simp [putAt]; done)) ?_
  dsimp only
  refine di 7 ?_
  simp only [cx, bi, Nat.reduceAdd, List.getD_cons_zero, List.getD_cons_succ, List.getD_nil, dc, Nat.reduceBEq, cond_true, cond_false]
  refine mn (X := Bool) (fun b => b = !fu t s) (fun b => [(87, .v (.bool b))]) (fun b G' => G') rfl ?_ (fun _ _ _ _ h => .inl h) ?_ ?_
  ·rintro b hI
   exact zL
  ·refine ml [(0, none), (1, none), (2, none), (3, none), (4, none), (5, none)] (fun _ => false) (fun i => [0, 2, 4, 5].contains i) 53 [true, true, true, true, true, true, false, false, false, false, false, false, false, false, false, false, false, false, false, false, false, false, false, false, false, false, false, false, false, false, false, false, false, false, false, false, false, false, false, false, false, false, false, false, false, false, false, false, false, false, false, false, false, false, false, false, false, false, false] (by kernel_rfl) (by kernel_rfl) ?_
   refine ai rfl rfl rfl rfl (cd rfl rfl rfl) ?_
   try dsimp only [St.put]
   refine az rfl rfl rfl rfl (bq rfl rfl) ?_
   refine ai rfl rfl rfl rfl (cd rfl rfl rfl) ?_
   try dsimp only [St.put]
   refine az rfl rfl rfl rfl (bq rfl rfl) ?_
   refine ai rfl rfl rfl rfl (bx rfl rfl (List.length_map _)) ?_
   refine ai rfl rfl rfl rfl (g9 rfl rfl rfl (by omega)) ?_
   refine b9 ?_
   refine bv [6] (by kernel_rfl) (by simp) ?_
   refine bo ?_ ?_
   ·try dsimp only [St.put]
    refine bz rfl rfl rfl (a7 rfl rfl rfl (p9 _ _ _) ?_)
    refine cy [(7, none), (8, none), (9, none), (10, none), (11, none), (12, none), (13, none), (14, none), (15, none), (16, none), (17, none), (18, none), (19, none)] (fun i => [7, 8, 9, 11, 13, 15, 16, 18, 19].contains i) 39 [true, true, true, true, true, true, true, true, true, true, true, true, true, true, true, true, true, true, true, true, false, false, false, false, false, false, false, false, false, false, false, false, false, false, false, false, false, false, false, false, false, false, false, false, false, false, false, false, false, false, false, false, false, false, false, false, false, false, false] (by kernel_rfl) ?_
    refine ai rfl rfl rfl rfl (c9 rfl rfl) ?_
    refine xM rfl rfl rfl rfl rfl ?_
    refine p5 (fun hs => ?_) (fun hs => ?_)
    ·have h8 : sB1 t s = false := by simpa [sB1] using hs
     refine bc rfl rfl rfl ?_
     refine bc rfl rfl rfl ?_
     refine bc rfl rfl rfl ?_
     refine bc rfl rfl rfl ?_
     refine bc rfl rfl rfl ?_
     refine bc rfl rfl rfl ?_
     refine bc rfl rfl rfl ?_
     refine bc rfl rfl rfl ?_
     refine bc rfl rfl rfl ?_
     refine bc rfl rfl rfl ?_
     refine bc rfl rfl rfl ?_
     refine b9 ?_
     refine bv [20] (by kernel_rfl) (by simp) ?_
     refine bo ?_ ?_
     ·refine k9 rfl rfl rfl ?_
      refine cy [(21, none), (22, none), (23, none), (24, none), (25, none), (26, none), (27, none), (28, none), (29, none), (30, none), (31, none), (32, none), (33, none), (34, none), (35, none), (36, none)] (fun i => [21, 22, 23, 24, 26, 28, 29, 31, 33, 34, 36].contains i) 22 [true, true, true, true, true, true, true, true, true, true, true, true, true, true, true, true, true, true, true, true, true, true, true, true, true, true, true, true, true, true, true, true, true, true, true, true, true, false, false, false, false, false, false, false, false, false, false, false, false, false, false, false, false, false, false, false, false, false, false] (by kernel_rfl) ?_
      refine bc rfl rfl rfl ?_
      refine ai rfl rfl rfl rfl (co rfl rfl (by constructor)) ?_
      refine xM rfl rfl rfl rfl rfl ?_
      refine bc rfl rfl rfl ?_
      refine bc rfl rfl rfl ?_
      refine bc rfl rfl rfl ?_
      refine bc rfl rfl rfl ?_
      refine bc rfl rfl rfl ?_
      refine bc rfl rfl rfl ?_
      refine bc rfl rfl rfl ?_
      refine bc rfl rfl rfl ?_
      refine bc rfl rfl rfl ?_
      refine bc rfl rfl rfl ?_
      refine bc rfl rfl rfl ?_
      refine bc rfl rfl rfl ?_
      refine bc rfl rfl rfl ?_
      refine b9 ?_
      refine bv [37] (by kernel_rfl) (by simp) ?_
      refine bo ?_ ?_
      ·refine k9 rfl rfl rfl ?_
       refine cy [(38, none), (39, none), (40, none), (41, none), (42, none)] (fun i => [38, 39, 40, 41].contains i) 16 [true, true, true, true, true, true, true, true, true, true, true, true, true, true, true, true, true, true, true, true, true, true, true, true, true, true, true, true, true, true, true, true, true, true, true, true, true, true, true, true, true, true, true, false, false, false, false, false, false, false, false, false, false, false, false, false, false, false, false] (by kernel_rfl) ?_
       refine bc rfl rfl rfl ?_
       refine ai rfl rfl rfl rfl (co rfl rfl (by constructor)) ?_
       refine xM rfl rfl rfl rfl rfl ?_
       refine bc rfl rfl rfl ?_
       refine bc rfl rfl rfl ?_
       refine b9 ?_
       refine bv [43] (by kernel_rfl) (by simp) ?_
       refine bo ?_ ?_
       ·refine k9 rfl rfl rfl ?_
        refine cy [(44, none), (45, none), (46, none), (47, none), (48, none), (49, none), (50, none), (51, none), (52, none), (53, none), (54, none), (55, none)] (fun i => [44, 45, 46, 47, 49, 51, 53, 54, 55].contains i) 3 [true, true, true, true, true, true, true, true, true, true, true, true, true, true, true, true, true, true, true, true, true, true, true, true, true, true, true, true, true, true, true, true, true, true, true, true, true, true, true, true, true, true, true, true, true, true, true, true, true, true, true, true, true, true, true, true, false, false, false] (by kernel_rfl) ?_
        refine bc rfl rfl rfl ?_
        refine ai rfl rfl rfl rfl (co rfl rfl (by constructor)) ?_
        refine xM rfl rfl rfl rfl rfl ?_
        refine bc rfl rfl rfl ?_
        refine bc rfl rfl rfl ?_
        refine bc rfl rfl rfl ?_
        refine bc rfl rfl rfl ?_
        refine bc rfl rfl rfl ?_
        refine bc rfl rfl rfl ?_
        refine bc rfl rfl rfl ?_
        refine bc rfl rfl rfl ?_
        refine bc rfl rfl rfl ?_
        refine b9 ?_
        refine bv [56] (by kernel_rfl) (by simp) ?_
        refine bo ?_ ?_
        ·refine k9 rfl rfl rfl ?_
         refine cy [(57, none), (58, none)] (fun i => [57, 58].contains i) 0 [true, true, true, true, true, true, true, true, true, true, true, true, true, true, true, true, true, true, true, true, true, true, true, true, true, true, true, true, true, true, true, true, true, true, true, true, true, true, true, true, true, true, true, true, true, true, true, true, true, true, true, true, true, true, true, true, true, true, true] (by kernel_rfl) ?_
         refine bc rfl rfl rfl ?_
         refine ai rfl rfl rfl rfl (co rfl rfl (by constructor)) ?_
         refine b9 ?_
         dsimp only [St.put]
         refine g6 (by kernel_rfl) ?_
         refine ⟨_, ?_, ⟨⟨rfl, rfl⟩, zF, zB, zN, zX⟩⟩
         (simp [fu, h8]; done)
        exact bu
       exact bu
      exact bu
     exact bu
    have h8 : sB1 t s = true := by simpa [sB1] using hs
    have hn1' := h8
    simp only [sB1, inB_true] at hn1'
    obtain ⟨c, hcx⟩ : ∃ c, t[s.ch.toNat]? = some c := dw (by omega)
    have hnl : f7 t s.ch = c.lines.length := by simp [f7, hcx]
    have hll := (hl3 c (e8 hcx)).2.1
    have hch : s.ch = ((s.ch.toNat : Nat) : Int) := by omega
    refine ai rfl rfl rfl rfl (cd rfl rfl rfl) ?_
    try dsimp only [St.put]
    refine az rfl rfl rfl rfl (bq rfl rfl) ?_
    refine ai rfl rfl rfl rfl (cd rfl rfl rfl) ?_
    try dsimp only [St.put]
    refine az rfl rfl rfl rfl (bq rfl rfl) ?_
    refine ai rfl rfl rfl rfl (cd rfl rfl rfl) ?_
    try dsimp only [St.put]
    refine az rfl rfl rfl rfl (bq rfl rfl) ?_
    try dsimp only [St.put]
    refine ai rfl rfl rfl rfl (b8 rfl rfl rfl (by omega) (cg (by assumption)) (Enc.len _)) ?_
    refine ai rfl rfl rfl rfl (cd rfl rfl rfl) ?_
    try dsimp only [St.put]
    refine az rfl rfl rfl rfl (bq rfl rfl) ?_
    refine ai rfl rfl rfl rfl (bx rfl rfl (List.length_map _)) ?_
    refine ai rfl rfl rfl rfl (g9 rfl rfl rfl (by omega)) ?_
    refine b9 ?_
    refine bv [20] (by kernel_rfl) (by simp) ?_
    refine bo ?_ ?_
    ·try dsimp only [St.put]
     refine bz rfl rfl rfl (a7 rfl rfl rfl (p9 _ _ _) ?_)
     refine cy [(21, none), (22, none), (23, none), (24, none), (25, none), (26, none), (27, none), (28, none), (29, none), (30, none), (31, none), (32, none), (33, none), (34, none), (35, none), (36, none)] (fun i => [21, 22, 23, 24, 26, 28, 29, 31, 33, 34, 36].contains i) 22 [true, true, true, true, true, true, true, true, true, true, true, true, true, true, true, true, true, true, true, true, true, true, true, true, true, true, true, true, true, true, true, true, true, true, true, true, true, false, false, false, false, false, false, false, false, false, false, false, false, false, false, false, false, false, false, false, false, false, false] (by kernel_rfl) ?_
     refine ai rfl rfl rfl rfl (c9 rfl rfl) ?_
     refine ai rfl rfl rfl rfl (dh rfl rfl (by constructor)) ?_
     refine xM rfl rfl rfl rfl rfl ?_
     refine p5 (fun hs => ?_) (fun hs => ?_)
     ·have h23 : inB s.fr 0 ((f7 t s.ch : Int) - 1) = false := by rw [hnl]; simpa using hs
      refine bc rfl rfl rfl ?_
      refine bc rfl rfl rfl ?_
      refine bc rfl rfl rfl ?_
      refine bc rfl rfl rfl ?_
      refine bc rfl rfl rfl ?_
      refine bc rfl rfl rfl ?_
      refine bc rfl rfl rfl ?_
      refine bc rfl rfl rfl ?_
      refine bc rfl rfl rfl ?_
      refine bc rfl rfl rfl ?_
      refine bc rfl rfl rfl ?_
      refine bc rfl rfl rfl ?_
      refine bc rfl rfl rfl ?_
      refine b9 ?_
      refine bv [37] (by kernel_rfl) (by simp) ?_
      refine bo ?_ ?_
      ·refine k9 rfl rfl rfl ?_
       refine cy [(38, none), (39, none), (40, none), (41, none), (42, none)] (fun i => [38, 39, 40, 41].contains i) 16 [true, true, true, true, true, true, true, true, true, true, true, true, true, true, true, true, true, true, true, true, true, true, true, true, true, true, true, true, true, true, true, true, true, true, true, true, true, true, true, true, true, true, true, false, false, false, false, false, false, false, false, false, false, false, false, false, false, false, false] (by kernel_rfl) ?_
       refine bc rfl rfl rfl ?_
       refine ai rfl rfl rfl rfl (co rfl rfl (by constructor)) ?_
       refine xM rfl rfl rfl rfl rfl ?_
       refine bc rfl rfl rfl ?_
       refine bc rfl rfl rfl ?_
       refine b9 ?_
       refine bv [43] (by kernel_rfl) (by simp) ?_
       refine bo ?_ ?_
       ·refine k9 rfl rfl rfl ?_
        refine cy [(44, none), (45, none), (46, none), (47, none), (48, none), (49, none), (50, none), (51, none), (52, none), (53, none), (54, none), (55, none)] (fun i => [44, 45, 46, 47, 49, 51, 53, 54, 55].contains i) 3 [true, true, true, true, true, true, true, true, true, true, true, true, true, true, true, true, true, true, true, true, true, true, true, true, true, true, true, true, true, true, true, true, true, true, true, true, true, true, true, true, true, true, true, true, true, true, true, true, true, true, true, true, true, true, true, true, false, false, false] (by kernel_rfl) ?_
        refine bc rfl rfl rfl ?_
        refine ai rfl rfl rfl rfl (co rfl rfl (by constructor)) ?_
        refine xM rfl rfl rfl rfl rfl ?_
        refine bc rfl rfl rfl ?_
        refine bc rfl rfl rfl ?_
        refine bc rfl rfl rfl ?_
        refine bc rfl rfl rfl ?_
        refine bc rfl rfl rfl ?_
        refine bc rfl rfl rfl ?_
        refine bc rfl rfl rfl ?_
        refine bc rfl rfl rfl ?_
        refine bc rfl rfl rfl ?_
        refine b9 ?_
        refine bv [56] (by kernel_rfl) (by simp) ?_
        refine bo ?_ ?_
        ·refine k9 rfl rfl rfl ?_
         refine cy [(57, none), (58, none)] (fun i => [57, 58].contains i) 0 [true, true, true, true, true, true, true, true, true, true, true, true, true, true, true, true, true, true, true, true, true, true, true, true, true, true, true, true, true, true, true, true, true, true, true, true, true, true, true, true, true, true, true, true, true, true, true, true, true, true, true, true, true, true, true, true, true, true, true] (by kernel_rfl) ?_
         refine bc rfl rfl rfl ?_
         refine ai rfl rfl rfl rfl (co rfl rfl (by constructor)) ?_
         refine b9 ?_
         dsimp only [St.put]
         refine g6 (by kernel_rfl) ?_
         refine ⟨_, ?_, ⟨⟨rfl, rfl⟩, zF, zB, zN, zX⟩⟩
         (simp [fu, sB2, h8, h23]; done)
        exact bu
       exact bu
      exact bu
     have h23 : inB s.fr 0 ((f7 t s.ch : Int) - 1) = true := by rw [hnl]; simpa using hs
     have hn2' := h23
     simp only [inB_true] at hn2'
     refine ai rfl rfl rfl rfl (cd rfl rfl rfl) ?_
     try dsimp only [St.put]
     refine az rfl rfl rfl rfl (bq rfl rfl) ?_
     refine ai rfl rfl rfl rfl (cd rfl rfl rfl) ?_
     try dsimp only [St.put]
     refine az rfl rfl rfl rfl (bq rfl rfl) ?_
     refine ai rfl rfl rfl rfl (ca rfl rfl rfl (by omega)) ?_
     refine ai rfl rfl rfl rfl (cd rfl rfl rfl) ?_
     try dsimp only [St.put]
     refine az rfl rfl rfl rfl (bq rfl rfl) ?_
     refine ai rfl rfl rfl rfl (cd rfl rfl rfl) ?_
     try dsimp only [St.put]
     refine az rfl rfl rfl rfl (bq rfl rfl) ?_
     try dsimp only [St.put]
     refine ai rfl rfl rfl rfl (b8 rfl rfl rfl (by omega) (cg (by assumption)) (Enc.len _)) ?_
     refine ai rfl rfl rfl rfl (cd rfl rfl rfl) ?_
     try dsimp only [St.put]
     refine az rfl rfl rfl rfl (bq rfl rfl) ?_
     refine ai rfl rfl rfl rfl (bx rfl rfl (List.length_map _)) ?_
     refine b9 ?_
     refine bv [37] (by kernel_rfl) (by simp) ?_
     refine bo ?_ ?_
     ·try dsimp only [St.put]
      refine bz rfl rfl rfl (a7 rfl rfl rfl (p9 _ _ _) ?_)
      refine cy [(38, none), (39, none), (40, none), (41, none), (42, none)] (fun i => [38, 39, 40, 41].contains i) 16 [true, true, true, true, true, true, true, true, true, true, true, true, true, true, true, true, true, true, true, true, true, true, true, true, true, true, true, true, true, true, true, true, true, true, true, true, true, true, true, true, true, true, true, false, false, false, false, false, false, false, false, false, false, false, false, false, false, false, false] (by kernel_rfl) ?_
      refine ai rfl rfl rfl rfl (c9 rfl rfl) ?_
      refine ai rfl rfl rfl rfl (dh rfl rfl (by constructor)) ?_
      refine xM rfl rfl rfl rfl rfl ?_
      refine p5 (fun hs => ?_) (fun hs => ?_)
      ·have h40 : inB s.tt (s.fr + 1) (f7 t s.ch) = false := by rw [hnl]; simpa using hs
       refine bc rfl rfl rfl ?_
       refine bc rfl rfl rfl ?_
       refine b9 ?_
       refine bv [43] (by kernel_rfl) (by simp) ?_
       refine bo ?_ ?_
       ·refine k9 rfl rfl rfl ?_
        refine cy [(44, none), (45, none), (46, none), (47, none), (48, none), (49, none), (50, none), (51, none), (52, none), (53, none), (54, none), (55, none)] (fun i => [44, 45, 46, 47, 49, 51, 53, 54, 55].contains i) 3 [true, true, true, true, true, true, true, true, true, true, true, true, true, true, true, true, true, true, true, true, true, true, true, true, true, true, true, true, true, true, true, true, true, true, true, true, true, true, true, true, true, true, true, true, true, true, true, true, true, true, true, true, true, true, true, true, false, false, false] (by kernel_rfl) ?_
        refine bc rfl rfl rfl ?_
        refine ai rfl rfl rfl rfl (co rfl rfl (by constructor)) ?_
        refine xM rfl rfl rfl rfl rfl ?_
        refine bc rfl rfl rfl ?_
        refine bc rfl rfl rfl ?_
        refine bc rfl rfl rfl ?_
        refine bc rfl rfl rfl ?_
        refine bc rfl rfl rfl ?_
        refine bc rfl rfl rfl ?_
        refine bc rfl rfl rfl ?_
        refine bc rfl rfl rfl ?_
        refine bc rfl rfl rfl ?_
        refine b9 ?_
        refine bv [56] (by kernel_rfl) (by simp) ?_
        refine bo ?_ ?_
        ·refine k9 rfl rfl rfl ?_
         refine cy [(57, none), (58, none)] (fun i => [57, 58].contains i) 0 [true, true, true, true, true, true, true, true, true, true, true, true, true, true, true, true, true, true, true, true, true, true, true, true, true, true, true, true, true, true, true, true, true, true, true, true, true, true, true, true, true, true, true, true, true, true, true, true, true, true, true, true, true, true, true, true, true, true, true] (by kernel_rfl) ?_
         refine bc rfl rfl rfl ?_
         refine ai rfl rfl rfl rfl (co rfl rfl (by constructor)) ?_
         refine b9 ?_
         dsimp only [St.put]
         refine g6 (by kernel_rfl) ?_
         refine ⟨_, ?_, ⟨⟨rfl, rfl⟩, zF, zB, zN, zX⟩⟩
         (simp [fu, sB2, h8, h23, h40]; done)
        exact bu
       exact bu
      have h40 : inB s.tt (s.fr + 1) (f7 t s.ch) = true := by rw [hnl]; simpa using hs
      have hn3' := h40
      simp only [inB_true] at hn3'
      refine ai rfl rfl rfl rfl (cd rfl rfl rfl) ?_
      try dsimp only [St.put]
      refine az rfl rfl rfl rfl (bq rfl rfl) ?_
      refine b9 ?_
      refine bv [43] (by kernel_rfl) (by simp) ?_
      refine bo ?_ ?_
      ·try dsimp only [St.put]
       refine bz rfl rfl rfl (a7 rfl rfl rfl (p9 _ _ _) ?_)
       refine cy [(44, none), (45, none), (46, none), (47, none), (48, none), (49, none), (50, none), (51, none), (52, none), (53, none), (54, none), (55, none)] (fun i => [44, 45, 46, 47, 49, 51, 53, 54, 55].contains i) 3 [true, true, true, true, true, true, true, true, true, true, true, true, true, true, true, true, true, true, true, true, true, true, true, true, true, true, true, true, true, true, true, true, true, true, true, true, true, true, true, true, true, true, true, true, true, true, true, true, true, true, true, true, true, true, true, true, false, false, false] (by kernel_rfl) ?_
       refine ai rfl rfl rfl rfl (c9 rfl rfl) ?_
       refine ai rfl rfl rfl rfl (dh rfl rfl (by constructor)) ?_
       refine xM rfl rfl rfl rfl rfl ?_
       refine p5 (fun hs => ?_) (fun hs => ?_)
       ·have h46 : inB s.au 1 999 = false := by simpa using hs
        refine bc rfl rfl rfl ?_
        refine bc rfl rfl rfl ?_
        refine bc rfl rfl rfl ?_
        refine bc rfl rfl rfl ?_
        refine bc rfl rfl rfl ?_
        refine bc rfl rfl rfl ?_
        refine bc rfl rfl rfl ?_
        refine bc rfl rfl rfl ?_
        refine bc rfl rfl rfl ?_
        refine b9 ?_
        refine bv [56] (by kernel_rfl) (by simp) ?_
        refine bo ?_ ?_
        ·refine k9 rfl rfl rfl ?_
         refine cy [(57, none), (58, none)] (fun i => [57, 58].contains i) 0 [true, true, true, true, true, true, true, true, true, true, true, true, true, true, true, true, true, true, true, true, true, true, true, true, true, true, true, true, true, true, true, true, true, true, true, true, true, true, true, true, true, true, true, true, true, true, true, true, true, true, true, true, true, true, true, true, true, true, true] (by kernel_rfl) ?_
         refine bc rfl rfl rfl ?_
         refine ai rfl rfl rfl rfl (co rfl rfl (by constructor)) ?_
         refine b9 ?_
         dsimp only [St.put]
         refine g6 (by kernel_rfl) ?_
         refine ⟨_, ?_, ⟨⟨rfl, rfl⟩, zF, zB, zN, zX⟩⟩
         (simp [fu, sB2, sB3, h8, h23, h40, h46]; done)
        exact bu
       have h46 : inB s.au 1 999 = true := by simpa using hs
       refine ai rfl rfl rfl rfl (cd rfl rfl rfl) ?_
       try dsimp only [St.put]
       refine az rfl rfl rfl rfl (bq rfl rfl) ?_
       refine ai rfl rfl rfl rfl (cd rfl rfl rfl) ?_
       try dsimp only [St.put]
       refine az rfl rfl rfl rfl (bq rfl rfl) ?_
       refine ai rfl rfl rfl rfl (cd rfl rfl rfl) ?_
       try dsimp only [St.put]
       refine az rfl rfl rfl rfl (bq rfl rfl) ?_
       refine ai rfl rfl rfl rfl (g9 rfl rfl rfl (by omega)) ?_
       refine ai rfl rfl rfl rfl (g9 rfl rfl rfl (by omega)) ?_
       refine ai rfl rfl rfl rfl (ca rfl rfl rfl (by omega)) ?_
       refine b9 ?_
       refine bv [56] (by kernel_rfl) (by simp) ?_
       refine bo ?_ ?_
       ·try dsimp only [St.put]
        refine bz rfl rfl rfl (a7 rfl rfl rfl (p9 _ _ _) ?_)
        refine cy [(57, none), (58, none)] (fun i => [57, 58].contains i) 0 [true, true, true, true, true, true, true, true, true, true, true, true, true, true, true, true, true, true, true, true, true, true, true, true, true, true, true, true, true, true, true, true, true, true, true, true, true, true, true, true, true, true, true, true, true, true, true, true, true, true, true, true, true, true, true, true, true, true, true] (by kernel_rfl) ?_
        refine ai rfl rfl rfl rfl (c9 rfl rfl) ?_
        refine ai rfl rfl rfl rfl (dh rfl rfl (by constructor)) ?_
        refine b9 ?_
        dsimp only [St.put]
        refine g6 (by kernel_rfl) ?_
        refine ⟨_, ?_, ⟨⟨rfl, rfl⟩, zF, zB, zN, zX⟩⟩
        (simp [fu, sB2, sB3, h8, h23, h40, h46]; done)
       exact bu
      exact bu
     exact bu
    exact bu
   exact bu
  rintro b hst
  dsimp only at hst ⊢
  refine ak rfl (fun hc => ?_) (fun hc => ?_)
  ·have hst' : fu t s = false := by rw [hc] at hst; simpa using hst.symm
   refine yS fun _ K13 => ?_
   refine yR ?_
   refine yA rfl rfl ?_
   refine yN ?_
   dsimp only [St.put]
   refine K13 _ ?_
   refine aj ?_
   refine ay rfl (by constructor) zN zS ?_
   exact vb (by simp [iv, ke hx hst'])
  have hst' : fu t s = true := by rw [hc] at hst; simpa using hst.symm
  refine aq ?_
  refine K10 _ ?_
  refine yR ?_
  refine yM rfl rfl ?_
  refine aa rfl (ca rfl rfl rfl (by omega)) ?_
  refine yA rfl rfl ?_
  refine yN ?_
  dsimp only [St.put]
  exact ⟨k + 1, by omega, ⟨by omega, by rw [mq hx, hI.2, hst']; rfl⟩, ⟨⟨rfl, rfl⟩, zF, zB, zN, zX⟩⟩
 try replace hc := of_decide_eq_false hc
 refine dl ?_
 refine K6 _ ?_
 refine yS fun _ K14 => ?_
 refine yR ?_
 refine yA rfl rfl ?_
 refine yN ?_
 dsimp only [St.put]
 refine K14 _ ?_
 refine aj ?_
 refine ay rfl (by constructor) zN zS ?_
 exact vb (by
  have h1 := hI.2
  rw [fj (by omega)] at h1
  simp [iv, hid, hln, h1])
theorem ufx (t : af) : ce Tryz.prog 35 [b7 t] (.v (.int .i64 (fq t))) := by
 refine cv Tryz.func35 rfl (fun m => .v) fun G nx => ?_
 simp only [Tryz.ntmps35, List.length_cons, List.length_nil, Nat.reduceAdd, Nat.reduceSub]
 refine bf fun hlt => ?_
 dsimp only at hlt
 refine yS fun _ K1 => ?_
 refine yR ?_
 try dsimp only [St.put]
 refine yB rfl rfl rfl ?_
 refine yA rfl rfl ?_
 refine yN ?_
 dsimp only [St.put]
 refine K1 _ ?_
 refine yS fun _ K2 => ?_
 refine yS fun _ K3 => ?_
 refine yR ?_
 try dsimp only [St.put]
 refine ba rfl (bk rfl rfl rfl) ?_
 try dsimp only [St.put]
 refine ae rfl (a7 rfl rfl rfl (uq0 _) ?_)
 refine aa rfl (c9 rfl rfl) ?_
 refine yN ?_
 dsimp only [St.put]
 refine K3 _ ?_
 refine ak rfl (fun hc => ?_) (fun hc => ?_)
 ·try replace hc := of_decide_eq_true hc
  refine yS fun _ K4 => ?_
  refine yR ?_
  refine yA rfl rfl ?_
  refine yN ?_
  dsimp only [St.put]
  refine K4 _ ?_
  refine aj ?_
  refine ay rfl (by constructor) zN zS ?_
  exact vi (by simp at hc; simp [fq, hc])
 try replace hc := of_decide_eq_false hc
 refine aq ?_
 refine K2 _ ?_
 refine yS fun _ K5 => ?_
 refine yR ?_
 refine yA rfl rfl ?_
 refine yN ?_
 dsimp only [St.put]
 refine K5 _ ?_
 refine aj ?_
 refine ay rfl (by constructor) zN zS ?_
 exact vi (by simp at hc; simp [fq, hc])
theorem urj (t : af) (e : aw) : ce Tryz.prog 32 [b7 t, val e] (.v (.int .i64 (ct t e))) := by
 refine cv Tryz.func32 rfl (fun m => .v) fun G nx => ?_
 simp only [Tryz.ntmps32, List.length_cons, List.length_nil, Nat.reduceAdd, Nat.reduceSub]
 refine bf fun hlt => ?_
 dsimp only at hlt
 refine yS fun _ K1 => ?_
 refine yR ?_
 try dsimp only [St.put]
 refine yB rfl rfl rfl ?_
 try dsimp only [St.put]
 refine yB rfl rfl rfl ?_
 refine yA rfl rfl ?_
 refine yN ?_
 dsimp only [St.put]
 refine K1 _ ?_
 refine yS fun _ K2 => ?_
 refine yS fun _ K3 => ?_
 refine yR ?_
 try dsimp only [St.put]
 refine ba rfl (bk rfl rfl rfl) ?_
 try dsimp only [St.put]
 refine ae rfl (a7 rfl rfl rfl (ufx _) ?_)
 refine yA rfl rfl ?_
 refine yN ?_
 dsimp only [St.put]
 refine K3 _ ?_
 refine yS fun _ K4 => ?_
 refine yR ?_
 refine yM rfl rfl ?_
 refine aa rfl (cz rfl rfl rfl) ?_
 refine yN ?_
 dsimp only [St.put]
 refine K4 _ ?_
 refine ak rfl (fun hc => ?_) (fun hc => ?_)
 ·have htx : bw t = false := by
   cases h : bw t
   ·rfl
   simp [fq, h] at hc
  refine yS fun _ K5 => ?_
  refine yR ?_
  refine yM rfl rfl ?_
  refine yA rfl rfl ?_
  refine yN ?_
  dsimp only [St.put]
  refine K5 _ ?_
  refine aj ?_
  refine ay rfl (by constructor) zN zS ?_
  exact vi (by simp [ct, fq, htx])
 have htx : bw t = true := by
  cases h : bw t
  ·simp [fq, h] at hc
  rfl
 refine aq ?_
 refine K2 _ ?_
 refine yS fun _ K6 => ?_
 refine yS fun _ K7 => ?_
 refine yR ?_
 try dsimp only [St.put]
 refine ba rfl (bk rfl rfl rfl) ?_
 refine yE rfl rfl rfl ?_
 try dsimp only [St.put]
 refine ae rfl (a7 rfl rfl rfl (urf _ _ htx) ?_)
 refine aa rfl (c9 rfl rfl) ?_
 refine yN ?_
 dsimp only [St.put]
 refine K7 _ ?_
 refine ak rfl (fun hc => ?_) (fun hc => ?_)
 ·try replace hc := of_decide_eq_true hc
  refine yS fun _ K8 => ?_
  refine yR ?_
  refine yA rfl rfl ?_
  refine yN ?_
  dsimp only [St.put]
  refine K8 _ ?_
  refine aj ?_
  refine ay rfl (by constructor) zN zS ?_
  exact vi (by simp at hc; simp [ct, htx, hc])
 try replace hc := of_decide_eq_false hc
 refine aq ?_
 refine K6 _ ?_
 refine yS fun _ K9 => ?_
 refine yR ?_
 refine yA rfl rfl ?_
 refine yN ?_
 dsimp only [St.put]
 refine K9 _ ?_
 refine aj ?_
 refine ay rfl (by constructor) zN zS ?_
 exact vi (by simp at hc; simp [ct, htx, hc])
end Go.Proofs.YtjjklfgpffgnfabGreatDoor
