/-
 Contracts of the reference's functions of charts: valid editions, what clashes.
-/
import Derived.Test.YtjjklfgpffgnfaaGreatDoorCfFuncs
import Derived.Test.YtjjklfgpffgnfaaGreatDoorGrpA
namespace Go.AB
open Go Go.RowKit
open Go.PB (bv ai PlaceD)
instance : FlatV StretchD := ⟨fun x => [.int .i64 x.ch, .int .i64 x.fr, .int .i64 x.tt, .int .i64 x.au, .int .i64 x.fi], fun _ => rfl⟩
end Go.AB
namespace Go.Proofs.YtjjklfgpffgnfaaGreatDoor
set_option maxRecDepth 10000
open Go.RowKit Go.AB
open Go.AB.Enc (cells)
open Go.PB (bv ai PlaceD cy c6 cz)
theorem ud0 : Tryz.prog.underlying 48 = some (.struct (Tryz.prog.fieldsOf 48)) := by kernel_rfl
theorem ufd : Tryz.prog.stoodInHeld 48 = false := by kernel_rfl
instance : EqT Tryz.prog 48 StretchD where
 guard op w x y xs ys := run_eqGuard_agg w op _ x y xs ys (by kernel_rfl)
 same w x y := by
  obtain ⟨a, b, c, d, e⟩ := x
  obtain ⟨a', b', c', d', e'⟩ := y
  simp only [FlatV.vals]
  rw [run_equalIn_agg _ _ _ _ _ ud0 ufd]
  by_cases h1 : a = a' <;> by_cases h2 : b = b' <;> by_cases h3 : c = c' <;> by_cases h4 : d = d' <;> by_cases h5 : e = e' <;> simp [go_sem, h1, h2, h3, h4, h5]

theorem pn (n lo hi : Int) : c8 Tryz.prog 51 [.v (.int .i64 n), .v (.int .i64 lo), .v (.int .i64 hi)] (.v (.bool (inB n lo hi))) := by
 refine dr Tryz.func51 rfl (fun m => .v) fun G nx => ?_
 simp only [Tryz.ntmps51, List.length_cons, List.length_nil, Nat.reduceAdd, Nat.reduceSub]
 refine bi fun hlt => ?_
 dsimp only at hlt
 refine yS fun _ K1 => ?_
 refine yR ?_
 refine yA rfl rfl ?_
 refine yN ?_
 dsimp only [St.put]
 refine K1 _ ?_
 refine yS fun _ K2 => ?_
 refine yR ?_
 refine yM rfl rfl ?_
 refine yM rfl rfl ?_
 refine aa rfl (m9 rfl rfl rfl) ?_
 refine e7 (fun hs => ?_) (fun hs => ?_)
 ·try replace hs := of_decide_eq_true hs
  refine yM rfl rfl ?_
  refine yM rfl rfl ?_
  refine yM rfl rfl ?_
  refine aa rfl (sx rfl rfl rfl) ?_
  refine aa rfl (bg rfl rfl (by constructor)) ?_
  refine yA rfl rfl ?_
  refine yN ?_
  dsimp only [St.put]
  refine K2 _ ?_
  refine am ?_
  refine bf rfl (by constructor) zN zS ?_
  exact vb (by simp [inB, hs]; try omega)
 try replace hs := of_decide_eq_false hs
 refine yM rfl rfl ?_
 refine yK rfl ?_
 refine yK rfl ?_
 refine yK rfl ?_
 refine aa rfl (cd rfl rfl (by constructor)) ?_
 refine yA rfl rfl ?_
 refine yN ?_
 dsimp only [St.put]
 refine K2 _ ?_
 refine am ?_
 refine bf rfl (by constructor) zN zS ?_
 exact vb (by simp [inB, hs]; try omega)
theorem um9 (a m b n : Int) (h1 : I64 (b + n)) (h2 : I64 (a + m)) : c8 Tryz.prog 123 [.v (.int .i64 a), .v (.int .i64 m), .v (.int .i64 b), .v (.int .i64 n)] (.v (.bool (k0 a m b n))) := by
 refine dr Tryz.func123 rfl (fun m => .v) fun G nx => ?_
 simp only [Tryz.ntmps123, List.length_cons, List.length_nil, Nat.reduceAdd, Nat.reduceSub]
 refine bi fun hlt => ?_
 dsimp only at hlt
 unfold I64 at h1 h2
 refine yS fun _ K1 => ?_
 refine yR ?_
 refine yA rfl rfl ?_
 refine yN ?_
 dsimp only [St.put]
 refine K1 _ ?_
 refine yS fun _ K2 => ?_
 refine yR ?_
 refine yM rfl rfl ?_
 refine yM rfl rfl ?_
 refine yM rfl rfl ?_
 refine aa rfl (bw rfl rfl rfl (by omega)) ?_
 refine aa rfl (cr rfl rfl rfl) ?_
 refine yM rfl rfl ?_
 refine e7 (fun hs => ?_) (fun hs => ?_)
 ·try replace hs := of_decide_eq_true hs
  refine yM rfl rfl ?_
  refine yM rfl rfl ?_
  refine yM rfl rfl ?_
  refine aa rfl (bw rfl rfl rfl (by omega)) ?_
  refine aa rfl (cr rfl rfl rfl) ?_
  refine aa rfl (bg rfl rfl (by constructor)) ?_
  refine yA rfl rfl ?_
  refine yN ?_
  dsimp only [St.put]
  refine K2 _ ?_
  refine am ?_
  refine bf rfl (by constructor) zN zS ?_
  exact vb (by simp [k0]; try omega)
 try replace hs := of_decide_eq_false hs
 refine yK rfl ?_
 refine yK rfl ?_
 refine yK rfl ?_
 refine yK rfl ?_
 refine yK rfl ?_
 refine aa rfl (cd rfl rfl (by constructor)) ?_
 refine yA rfl rfl ?_
 refine yN ?_
 dsimp only [St.put]
 refine K2 _ ?_
 refine am ?_
 refine bf rfl (by constructor) zN zS ?_
 exact vb (by simp [k0]; try omega)
theorem um2 (e : av) : c8 Tryz.prog 71 [val e] (.v (.bool (decide (20 < e.ss.length)))) := by
 refine dr Tryz.func71 rfl (fun m => .v) fun G nx => ?_
 simp only [Tryz.ntmps71, List.length_cons, List.length_nil, Nat.reduceAdd, Nat.reduceSub]
 refine bi fun hlt => ?_
 dsimp only at hlt
 refine yS fun _ K1 => ?_
 refine yR ?_
 try dsimp only [St.put]
 refine yB rfl rfl rfl ?_
 refine yA rfl rfl ?_
 refine yN ?_
 dsimp only [St.put]
 refine K1 _ ?_
 refine yS fun _ K2 => ?_
 refine yR ?_
 refine yF rfl rfl rfl rfl ?_
 refine yL rfl rfl rfl ?_
 refine aa rfl (ck rfl rfl (List.length_map _)) ?_
 refine aa rfl (gz rfl rfl rfl) ?_
 refine yA rfl rfl ?_
 refine yN ?_
 dsimp only [St.put]
 refine K2 _ ?_
 refine am ?_
 refine bf rfl (by constructor) zN zS ?_
 exact vb (by simp; omega)
theorem um3 (t : ai) (e : av) (ht : ct t = true) : c8 Tryz.prog 74 [b8 t, val e] (.v (.bool (i5 t e))) := by
 refine dr Tryz.func74 rfl (fun m => .v) fun G nx => ?_
 simp only [Tryz.ntmps74, List.length_cons, List.length_nil, Nat.reduceAdd, Nat.reduceSub]
 refine bi fun hlt => ?_
 dsimp only at hlt
 refine lz 1 (fun hf => ?_)
 replace hf := ujv hf
 have hf0 := hf.len
 obtain ⟨hl1, hl2, hl3⟩ := ml ht
 refine yS fun _ K1 => ?_
 refine yR ?_
 try dsimp only [St.put]
 refine yB rfl rfl rfl ?_
 try dsimp only [St.put]
 refine yB rfl rfl rfl ?_
 refine yA rfl rfl ?_
 refine yN ?_
 dsimp only [St.put]
 refine K1 _ ?_
 refine yS fun _ K2 => ?_
 refine yS fun _ K3 => ?_
 refine yR ?_
 refine yF rfl rfl rfl rfl ?_
 refine yL rfl rfl rfl ?_
 try dsimp only [St.put]
 refine ae rfl (bd rfl rfl rfl (pn _ _ _) ?_)
 refine aa rfl (dn rfl rfl) ?_
 refine yM rfl rfl ?_
 refine e7 (fun hs => ?_) (fun hs => ?_)
 ·have hid : inB e.id 0 9999 = false := by simpa using hs
  refine yK rfl ?_
  refine yK rfl ?_
  refine yK rfl ?_
  refine yK rfl ?_
  refine aa rfl (bg rfl rfl (by constructor)) ?_
  refine yN ?_
  dsimp only [St.put]
  refine K3 _ ?_
  refine al rfl (fun _ => ?_) (fun h => by cases h)
  skip
  refine yS fun _ K4 => ?_
  refine yR ?_
  refine yA rfl rfl ?_
  refine yN ?_
  dsimp only [St.put]
  refine K4 _ ?_
  refine am ?_
  refine bf rfl (by constructor) zN zS ?_
  first
  | (refine vb ?_; simp [i5, hid]; done)
  | (have h := of_decide_eq_true (hc : decide _ = true)
     have h2 : ¬ e.ss.length ≤ 12 := by omega
     exact vb (by simp [i5, hid, h2]))
 have hid : inB e.id 0 9999 = true := by simpa using hs
 refine yF rfl rfl rfl rfl ?_
 refine yL rfl rfl rfl ?_
 refine aa rfl (ck rfl rfl (List.length_map _)) ?_
 refine aa rfl (gz rfl rfl rfl) ?_
 refine aa rfl (cd rfl rfl (by constructor)) ?_
 refine yN ?_
 dsimp only [St.put]
 refine K3 _ ?_
 refine al rfl (fun hc => ?_) (fun hc => ?_)
 ·skip
  refine yS fun _ K5 => ?_
  refine yR ?_
  refine yA rfl rfl ?_
  refine yN ?_
  dsimp only [St.put]
  refine K5 _ ?_
  refine am ?_
  refine bf rfl (by constructor) zN zS ?_
  first
  | (refine vb ?_; simp [i5, hid]; done)
  | (have h := of_decide_eq_true (hc : decide _ = true)
     have h2 : ¬ e.ss.length ≤ 12 := by omega
     exact vb (by simp [i5, hid, h2]))
 have hln : e.ss.length ≤ 12 := by have h := of_decide_eq_false (hc : decide _ = false); omega
 refine aw ?_
 refine K2 _ ?_
 refine yS fun _ K6 => ?_
 refine yS fun _ K7 => ?_
 refine yR ?_
 refine yA rfl rfl ?_
 refine yN ?_
 dsimp only [St.put]
 refine K7 _ ?_
 refine bn ?_
 refine eg 6 ?_
 simp only [dj, bq, Nat.reduceAdd, List.getD_cons_zero, List.getD_cons_succ, List.getD_nil, dw, Nat.reduceBEq, cond_true, cond_false]
 refine fg (G) zX ?_
 dsimp only
 refine fu (X := Nat) (fun k => k ≤ e.ss.length ∧ (e.ss.take k).all (g9 t) = true) (fun k => e.ss.length - k) (fun k => [(5, .v (.int .i64 (k : Int)))]) (fun k G' => G') 0 rfl ?_ ?_ (fun _ _ h => h) ?_ ?_ ?_
 ·exact ⟨by simp, by simp⟩
 ·exact zF
 ·rintro k hI
  exact zL
 ·exact fun _ _ _ _ h => .inl h
 rintro k hI
 dsimp only at hI ⊢
 refine yS fun _ K8 => ?_
 refine yS fun _ K9 => ?_
 refine yR ?_
 refine yM rfl rfl ?_
 refine yF rfl rfl rfl rfl ?_
 refine yL rfl rfl rfl ?_
 refine aa rfl (ck rfl rfl (List.length_map _)) ?_
 refine aa rfl (cr rfl rfl rfl) ?_
 refine yN ?_
 dsimp only [St.put]
 refine K9 _ ?_
 refine al rfl (fun hc => ?_) (fun hc => ?_)
 ·replace hc := of_decide_eq_true hc
  obtain ⟨s, hx⟩ : ∃ x, e.ss[k]? = some x := fj (by omega)
  have hsf := hf.ss s (gr hx)
  obtain ⟨f1, f2, f3, f4, f5⟩ := hsf
  unfold I64 at f1 f2 f3 f4 f5
  refine aw ?_
  refine K8 _ ?_
  refine yS fun _ K10 => ?_
  refine bn ?_
  refine yS fun _ K11 => ?_
  refine yR ?_
  refine yF rfl rfl rfl rfl ?_
  refine yL rfl rfl rfl ?_
  refine yM rfl rfl ?_
  refine aa rfl (b7 rfl rfl rfl rfl (cm (by assumption)) (Enc.len _)) ?_
  refine yE rfl rfl rfl ?_
  try dsimp only [St.put]
  refine ae rfl (bp rfl ?_)
  try dsimp only [St.put]
  refine ae rfl (ay rfl rfl rfl zG rfl rfl (by rfl) ?_)
  refine yN ?_
  dsimp only [St.put]
  refine K11 _ ?_
  refine dg (i := 6) rfl zG (by first | exact List.cons_ne_nil _ _ | (simp; done) | (simp [putAt]; done)) ?_
  dsimp only
  refine eg 7 ?_
  simp only [dj, bq, Nat.reduceAdd, List.getD_cons_zero, List.getD_cons_succ, List.getD_nil, dw, Nat.reduceBEq, cond_true, cond_false]
  refine mi (X := Bool) (fun b => b = !g9 t s) (fun b => [(87, .v (.bool b))]) (fun b G' => G') rfl ?_ (fun _ _ _ _ h => .inl h) ?_ ?_
  ·rintro b hI
   exact zL
  ·refine la [(0, none), (1, none), (2, none), (3, none), (4, none), (5, none)] (fun _ => false) (fun i => [0, 2, 4, 5].contains i) 53 [true, true, true, true, true, true, false, false, false, false, false, false, false, false, false, false, false, false, false, false, false, false, false, false, false, false, false, false, false, false, false, false, false, false, false, false, false, false, false, false, false, false, false, false, false, false, false, false, false, false, false, false, false, false, false, false, false, false, false] (by kernel_rfl) (by kernel_rfl) ?_
   refine ah rfl rfl rfl rfl (b9 rfl rfl rfl) ?_
   try dsimp only [St.put]
   refine aj rfl rfl rfl rfl (a7 rfl rfl) ?_
   refine ah rfl rfl rfl rfl (b9 rfl rfl rfl) ?_
   try dsimp only [St.put]
   refine aj rfl rfl rfl rfl (a7 rfl rfl) ?_
   refine ah rfl rfl rfl rfl (ck rfl rfl (List.length_map _)) ?_
   refine ah rfl rfl rfl rfl (ip rfl rfl rfl (by omega)) ?_
   refine bu ?_
   refine bk [6] (by kernel_rfl) (by simp) ?_
   refine bc ?_ ?_
   ·try dsimp only [St.put]
    refine br rfl rfl rfl (bd rfl rfl rfl (pn _ _ _) ?_)
    refine cq [(7, none), (8, none), (9, none), (10, none), (11, none), (12, none), (13, none), (14, none), (15, none), (16, none), (17, none), (18, none), (19, none)] (fun i => [7, 8, 9, 11, 13, 15, 16, 18, 19].contains i) 39 [true, true, true, true, true, true, true, true, true, true, true, true, true, true, true, true, true, true, true, true, false, false, false, false, false, false, false, false, false, false, false, false, false, false, false, false, false, false, false, false, false, false, false, false, false, false, false, false, false, false, false, false, false, false, false, false, false, false, false] (by kernel_rfl) ?_
    refine ah rfl rfl rfl rfl (dn rfl rfl) ?_
    refine xM rfl rfl rfl rfl rfl ?_
    refine qk (fun hs => ?_) (fun hs => ?_)
    ·have h8 : sB1 t s = false := by simpa [sB1] using hs
     refine ba rfl rfl rfl ?_
     refine ba rfl rfl rfl ?_
     refine ba rfl rfl rfl ?_
     refine ba rfl rfl rfl ?_
     refine ba rfl rfl rfl ?_
     refine ba rfl rfl rfl ?_
     refine ba rfl rfl rfl ?_
     refine ba rfl rfl rfl ?_
     refine ba rfl rfl rfl ?_
     refine ba rfl rfl rfl ?_
     refine ba rfl rfl rfl ?_
     refine bu ?_
     refine bk [20] (by kernel_rfl) (by simp) ?_
     refine bc ?_ ?_
     ·refine l4 rfl rfl rfl ?_
      refine cq [(21, none), (22, none), (23, none), (24, none), (25, none), (26, none), (27, none), (28, none), (29, none), (30, none), (31, none), (32, none), (33, none), (34, none), (35, none), (36, none)] (fun i => [21, 22, 23, 24, 26, 28, 29, 31, 33, 34, 36].contains i) 22 [true, true, true, true, true, true, true, true, true, true, true, true, true, true, true, true, true, true, true, true, true, true, true, true, true, true, true, true, true, true, true, true, true, true, true, true, true, false, false, false, false, false, false, false, false, false, false, false, false, false, false, false, false, false, false, false, false, false, false] (by kernel_rfl) ?_
      refine ba rfl rfl rfl ?_
      refine ah rfl rfl rfl rfl (bg rfl rfl (by constructor)) ?_
      refine xM rfl rfl rfl rfl rfl ?_
      refine ba rfl rfl rfl ?_
      refine ba rfl rfl rfl ?_
      refine ba rfl rfl rfl ?_
      refine ba rfl rfl rfl ?_
      refine ba rfl rfl rfl ?_
      refine ba rfl rfl rfl ?_
      refine ba rfl rfl rfl ?_
      refine ba rfl rfl rfl ?_
      refine ba rfl rfl rfl ?_
      refine ba rfl rfl rfl ?_
      refine ba rfl rfl rfl ?_
      refine ba rfl rfl rfl ?_
      refine ba rfl rfl rfl ?_
      refine bu ?_
      refine bk [37] (by kernel_rfl) (by simp) ?_
      refine bc ?_ ?_
      ·refine l4 rfl rfl rfl ?_
       refine cq [(38, none), (39, none), (40, none), (41, none), (42, none)] (fun i => [38, 39, 40, 41].contains i) 16 [true, true, true, true, true, true, true, true, true, true, true, true, true, true, true, true, true, true, true, true, true, true, true, true, true, true, true, true, true, true, true, true, true, true, true, true, true, true, true, true, true, true, true, false, false, false, false, false, false, false, false, false, false, false, false, false, false, false, false] (by kernel_rfl) ?_
       refine ba rfl rfl rfl ?_
       refine ah rfl rfl rfl rfl (bg rfl rfl (by constructor)) ?_
       refine xM rfl rfl rfl rfl rfl ?_
       refine ba rfl rfl rfl ?_
       refine ba rfl rfl rfl ?_
       refine bu ?_
       refine bk [43] (by kernel_rfl) (by simp) ?_
       refine bc ?_ ?_
       ·refine l4 rfl rfl rfl ?_
        refine cq [(44, none), (45, none), (46, none), (47, none), (48, none), (49, none), (50, none), (51, none), (52, none), (53, none), (54, none), (55, none)] (fun i => [44, 45, 46, 47, 49, 51, 53, 54, 55].contains i) 3 [true, true, true, true, true, true, true, true, true, true, true, true, true, true, true, true, true, true, true, true, true, true, true, true, true, true, true, true, true, true, true, true, true, true, true, true, true, true, true, true, true, true, true, true, true, true, true, true, true, true, true, true, true, true, true, true, false, false, false] (by kernel_rfl) ?_
        refine ba rfl rfl rfl ?_
        refine ah rfl rfl rfl rfl (bg rfl rfl (by constructor)) ?_
        refine xM rfl rfl rfl rfl rfl ?_
        refine ba rfl rfl rfl ?_
        refine ba rfl rfl rfl ?_
        refine ba rfl rfl rfl ?_
        refine ba rfl rfl rfl ?_
        refine ba rfl rfl rfl ?_
        refine ba rfl rfl rfl ?_
        refine ba rfl rfl rfl ?_
        refine ba rfl rfl rfl ?_
        refine ba rfl rfl rfl ?_
        refine bu ?_
        refine bk [56] (by kernel_rfl) (by simp) ?_
        refine bc ?_ ?_
        ·refine l4 rfl rfl rfl ?_
         refine cq [(57, none), (58, none)] (fun i => [57, 58].contains i) 0 [true, true, true, true, true, true, true, true, true, true, true, true, true, true, true, true, true, true, true, true, true, true, true, true, true, true, true, true, true, true, true, true, true, true, true, true, true, true, true, true, true, true, true, true, true, true, true, true, true, true, true, true, true, true, true, true, true, true, true] (by kernel_rfl) ?_
         refine ba rfl rfl rfl ?_
         refine ah rfl rfl rfl rfl (bg rfl rfl (by constructor)) ?_
         refine bu ?_
         dsimp only [St.put]
         refine gk (by kernel_rfl) ?_
         refine ⟨_, ?_, ⟨⟨rfl, rfl⟩, zF, zB, zN, zX⟩⟩
         (simp [g9, h8]; done)
        exact bj
       exact bj
      exact bj
     exact bj
    have h8 : sB1 t s = true := by simpa [sB1] using hs
    have hn1' := h8
    simp only [sB1, inB_true] at hn1'
    obtain ⟨c, hcx⟩ : ∃ c, t[s.ch.toNat]? = some c := fj (by omega)
    have hnl : ia t s.ch = c.lines.length := by simp [ia, hcx]
    have hll := (hl3 c (gr hcx)).2.1
    have hch : s.ch = ((s.ch.toNat : Nat) : Int) := by omega
    refine ah rfl rfl rfl rfl (b9 rfl rfl rfl) ?_
    try dsimp only [St.put]
    refine aj rfl rfl rfl rfl (a7 rfl rfl) ?_
    refine ah rfl rfl rfl rfl (b9 rfl rfl rfl) ?_
    try dsimp only [St.put]
    refine aj rfl rfl rfl rfl (a7 rfl rfl) ?_
    refine ah rfl rfl rfl rfl (b9 rfl rfl rfl) ?_
    try dsimp only [St.put]
    refine aj rfl rfl rfl rfl (a7 rfl rfl) ?_
    try dsimp only [St.put]
    refine ah rfl rfl rfl rfl (b7 rfl rfl rfl (by omega) (cm (by assumption)) (Enc.len _)) ?_
    refine ah rfl rfl rfl rfl (b9 rfl rfl rfl) ?_
    try dsimp only [St.put]
    refine aj rfl rfl rfl rfl (a7 rfl rfl) ?_
    refine ah rfl rfl rfl rfl (ck rfl rfl (List.length_map _)) ?_
    refine ah rfl rfl rfl rfl (ip rfl rfl rfl (by omega)) ?_
    refine bu ?_
    refine bk [20] (by kernel_rfl) (by simp) ?_
    refine bc ?_ ?_
    ·try dsimp only [St.put]
     refine br rfl rfl rfl (bd rfl rfl rfl (pn _ _ _) ?_)
     refine cq [(21, none), (22, none), (23, none), (24, none), (25, none), (26, none), (27, none), (28, none), (29, none), (30, none), (31, none), (32, none), (33, none), (34, none), (35, none), (36, none)] (fun i => [21, 22, 23, 24, 26, 28, 29, 31, 33, 34, 36].contains i) 22 [true, true, true, true, true, true, true, true, true, true, true, true, true, true, true, true, true, true, true, true, true, true, true, true, true, true, true, true, true, true, true, true, true, true, true, true, true, false, false, false, false, false, false, false, false, false, false, false, false, false, false, false, false, false, false, false, false, false, false] (by kernel_rfl) ?_
     refine ah rfl rfl rfl rfl (dn rfl rfl) ?_
     refine ah rfl rfl rfl rfl (cd rfl rfl (by constructor)) ?_
     refine xM rfl rfl rfl rfl rfl ?_
     refine qk (fun hs => ?_) (fun hs => ?_)
     ·have h23 : inB s.fr 0 ((ia t s.ch : Int) - 1) = false := by rw [hnl]; simpa using hs
      refine ba rfl rfl rfl ?_
      refine ba rfl rfl rfl ?_
      refine ba rfl rfl rfl ?_
      refine ba rfl rfl rfl ?_
      refine ba rfl rfl rfl ?_
      refine ba rfl rfl rfl ?_
      refine ba rfl rfl rfl ?_
      refine ba rfl rfl rfl ?_
      refine ba rfl rfl rfl ?_
      refine ba rfl rfl rfl ?_
      refine ba rfl rfl rfl ?_
      refine ba rfl rfl rfl ?_
      refine ba rfl rfl rfl ?_
      refine bu ?_
      refine bk [37] (by kernel_rfl) (by simp) ?_
      refine bc ?_ ?_
      ·refine l4 rfl rfl rfl ?_
       refine cq [(38, none), (39, none), (40, none), (41, none), (42, none)] (fun i => [38, 39, 40, 41].contains i) 16 [true, true, true, true, true, true, true, true, true, true, true, true, true, true, true, true, true, true, true, true, true, true, true, true, true, true, true, true, true, true, true, true, true, true, true, true, true, true, true, true, true, true, true, false, false, false, false, false, false, false, false, false, false, false, false, false, false, false, false] (by kernel_rfl) ?_
       refine ba rfl rfl rfl ?_
       refine ah rfl rfl rfl rfl (bg rfl rfl (by constructor)) ?_
       refine xM rfl rfl rfl rfl rfl ?_
       refine ba rfl rfl rfl ?_
       refine ba rfl rfl rfl ?_
       refine bu ?_
       refine bk [43] (by kernel_rfl) (by simp) ?_
       refine bc ?_ ?_
       ·refine l4 rfl rfl rfl ?_
        refine cq [(44, none), (45, none), (46, none), (47, none), (48, none), (49, none), (50, none), (51, none), (52, none), (53, none), (54, none), (55, none)] (fun i => [44, 45, 46, 47, 49, 51, 53, 54, 55].contains i) 3 [true, true, true, true, true, true, true, true, true, true, true, true, true, true, true, true, true, true, true, true, true, true, true, true, true, true, true, true, true, true, true, true, true, true, true, true, true, true, true, true, true, true, true, true, true, true, true, true, true, true, true, true, true, true, true, true, false, false, false] (by kernel_rfl) ?_
        refine ba rfl rfl rfl ?_
        refine ah rfl rfl rfl rfl (bg rfl rfl (by constructor)) ?_
        refine xM rfl rfl rfl rfl rfl ?_
        refine ba rfl rfl rfl ?_
        refine ba rfl rfl rfl ?_
        refine ba rfl rfl rfl ?_
        refine ba rfl rfl rfl ?_
        refine ba rfl rfl rfl ?_
        refine ba rfl rfl rfl ?_
        refine ba rfl rfl rfl ?_
        refine ba rfl rfl rfl ?_
        refine ba rfl rfl rfl ?_
        refine bu ?_
        refine bk [56] (by kernel_rfl) (by simp) ?_
        refine bc ?_ ?_
        ·refine l4 rfl rfl rfl ?_
         refine cq [(57, none), (58, none)] (fun i => [57, 58].contains i) 0 [true, true, true, true, true, true, true, true, true, true, true, true, true, true, true, true, true, true, true, true, true, true, true, true, true, true, true, true, true, true, true, true, true, true, true, true, true, true, true, true, true, true, true, true, true, true, true, true, true, true, true, true, true, true, true, true, true, true, true] (by kernel_rfl) ?_
         refine ba rfl rfl rfl ?_
         refine ah rfl rfl rfl rfl (bg rfl rfl (by constructor)) ?_
         refine bu ?_
         dsimp only [St.put]
         refine gk (by kernel_rfl) ?_
         refine ⟨_, ?_, ⟨⟨rfl, rfl⟩, zF, zB, zN, zX⟩⟩
         (simp [g9, sB2, h8, h23]; done)
        exact bj
       exact bj
      exact bj
     have h23 : inB s.fr 0 ((ia t s.ch : Int) - 1) = true := by rw [hnl]; simpa using hs
     have hn2' := h23
     simp only [inB_true] at hn2'
     refine ah rfl rfl rfl rfl (b9 rfl rfl rfl) ?_
     try dsimp only [St.put]
     refine aj rfl rfl rfl rfl (a7 rfl rfl) ?_
     refine ah rfl rfl rfl rfl (b9 rfl rfl rfl) ?_
     try dsimp only [St.put]
     refine aj rfl rfl rfl rfl (a7 rfl rfl) ?_
     refine ah rfl rfl rfl rfl (bw rfl rfl rfl (by omega)) ?_
     refine ah rfl rfl rfl rfl (b9 rfl rfl rfl) ?_
     try dsimp only [St.put]
     refine aj rfl rfl rfl rfl (a7 rfl rfl) ?_
     refine ah rfl rfl rfl rfl (b9 rfl rfl rfl) ?_
     try dsimp only [St.put]
     refine aj rfl rfl rfl rfl (a7 rfl rfl) ?_
     try dsimp only [St.put]
     refine ah rfl rfl rfl rfl (b7 rfl rfl rfl (by omega) (cm (by assumption)) (Enc.len _)) ?_
     refine ah rfl rfl rfl rfl (b9 rfl rfl rfl) ?_
     try dsimp only [St.put]
     refine aj rfl rfl rfl rfl (a7 rfl rfl) ?_
     refine ah rfl rfl rfl rfl (ck rfl rfl (List.length_map _)) ?_
     refine bu ?_
     refine bk [37] (by kernel_rfl) (by simp) ?_
     refine bc ?_ ?_
     ·try dsimp only [St.put]
      refine br rfl rfl rfl (bd rfl rfl rfl (pn _ _ _) ?_)
      refine cq [(38, none), (39, none), (40, none), (41, none), (42, none)] (fun i => [38, 39, 40, 41].contains i) 16 [true, true, true, true, true, true, true, true, true, true, true, true, true, true, true, true, true, true, true, true, true, true, true, true, true, true, true, true, true, true, true, true, true, true, true, true, true, true, true, true, true, true, true, false, false, false, false, false, false, false, false, false, false, false, false, false, false, false, false] (by kernel_rfl) ?_
      refine ah rfl rfl rfl rfl (dn rfl rfl) ?_
      refine ah rfl rfl rfl rfl (cd rfl rfl (by constructor)) ?_
      refine xM rfl rfl rfl rfl rfl ?_
      refine qk (fun hs => ?_) (fun hs => ?_)
      ·have h40 : inB s.tt (s.fr + 1) (ia t s.ch) = false := by rw [hnl]; simpa using hs
       refine ba rfl rfl rfl ?_
       refine ba rfl rfl rfl ?_
       refine bu ?_
       refine bk [43] (by kernel_rfl) (by simp) ?_
       refine bc ?_ ?_
       ·refine l4 rfl rfl rfl ?_
        refine cq [(44, none), (45, none), (46, none), (47, none), (48, none), (49, none), (50, none), (51, none), (52, none), (53, none), (54, none), (55, none)] (fun i => [44, 45, 46, 47, 49, 51, 53, 54, 55].contains i) 3 [true, true, true, true, true, true, true, true, true, true, true, true, true, true, true, true, true, true, true, true, true, true, true, true, true, true, true, true, true, true, true, true, true, true, true, true, true, true, true, true, true, true, true, true, true, true, true, true, true, true, true, true, true, true, true, true, false, false, false] (by kernel_rfl) ?_
        refine ba rfl rfl rfl ?_
        refine ah rfl rfl rfl rfl (bg rfl rfl (by constructor)) ?_
        refine xM rfl rfl rfl rfl rfl ?_
        refine ba rfl rfl rfl ?_
        refine ba rfl rfl rfl ?_
        refine ba rfl rfl rfl ?_
        refine ba rfl rfl rfl ?_
        refine ba rfl rfl rfl ?_
        refine ba rfl rfl rfl ?_
        refine ba rfl rfl rfl ?_
        refine ba rfl rfl rfl ?_
        refine ba rfl rfl rfl ?_
        refine bu ?_
        refine bk [56] (by kernel_rfl) (by simp) ?_
        refine bc ?_ ?_
        ·refine l4 rfl rfl rfl ?_
         refine cq [(57, none), (58, none)] (fun i => [57, 58].contains i) 0 [true, true, true, true, true, true, true, true, true, true, true, true, true, true, true, true, true, true, true, true, true, true, true, true, true, true, true, true, true, true, true, true, true, true, true, true, true, true, true, true, true, true, true, true, true, true, true, true, true, true, true, true, true, true, true, true, true, true, true] (by kernel_rfl) ?_
         refine ba rfl rfl rfl ?_
         refine ah rfl rfl rfl rfl (bg rfl rfl (by constructor)) ?_
         refine bu ?_
         dsimp only [St.put]
         refine gk (by kernel_rfl) ?_
         refine ⟨_, ?_, ⟨⟨rfl, rfl⟩, zF, zB, zN, zX⟩⟩
         (simp [g9, sB2, h8, h23, h40]; done)
        exact bj
       exact bj
      have h40 : inB s.tt (s.fr + 1) (ia t s.ch) = true := by rw [hnl]; simpa using hs
      have hn3' := h40
      simp only [inB_true] at hn3'
      refine ah rfl rfl rfl rfl (b9 rfl rfl rfl) ?_
      try dsimp only [St.put]
      refine aj rfl rfl rfl rfl (a7 rfl rfl) ?_
      refine bu ?_
      refine bk [43] (by kernel_rfl) (by simp) ?_
      refine bc ?_ ?_
      ·try dsimp only [St.put]
       refine br rfl rfl rfl (bd rfl rfl rfl (pn _ _ _) ?_)
       refine cq [(44, none), (45, none), (46, none), (47, none), (48, none), (49, none), (50, none), (51, none), (52, none), (53, none), (54, none), (55, none)] (fun i => [44, 45, 46, 47, 49, 51, 53, 54, 55].contains i) 3 [true, true, true, true, true, true, true, true, true, true, true, true, true, true, true, true, true, true, true, true, true, true, true, true, true, true, true, true, true, true, true, true, true, true, true, true, true, true, true, true, true, true, true, true, true, true, true, true, true, true, true, true, true, true, true, true, false, false, false] (by kernel_rfl) ?_
       refine ah rfl rfl rfl rfl (dn rfl rfl) ?_
       refine ah rfl rfl rfl rfl (cd rfl rfl (by constructor)) ?_
       refine xM rfl rfl rfl rfl rfl ?_
       refine qk (fun hs => ?_) (fun hs => ?_)
       ·have h46 : inB s.au 1 999 = false := by simpa using hs
        refine ba rfl rfl rfl ?_
        refine ba rfl rfl rfl ?_
        refine ba rfl rfl rfl ?_
        refine ba rfl rfl rfl ?_
        refine ba rfl rfl rfl ?_
        refine ba rfl rfl rfl ?_
        refine ba rfl rfl rfl ?_
        refine ba rfl rfl rfl ?_
        refine ba rfl rfl rfl ?_
        refine bu ?_
        refine bk [56] (by kernel_rfl) (by simp) ?_
        refine bc ?_ ?_
        ·refine l4 rfl rfl rfl ?_
         refine cq [(57, none), (58, none)] (fun i => [57, 58].contains i) 0 [true, true, true, true, true, true, true, true, true, true, true, true, true, true, true, true, true, true, true, true, true, true, true, true, true, true, true, true, true, true, true, true, true, true, true, true, true, true, true, true, true, true, true, true, true, true, true, true, true, true, true, true, true, true, true, true, true, true, true] (by kernel_rfl) ?_
         refine ba rfl rfl rfl ?_
         refine ah rfl rfl rfl rfl (bg rfl rfl (by constructor)) ?_
         refine bu ?_
         dsimp only [St.put]
         refine gk (by kernel_rfl) ?_
         refine ⟨_, ?_, ⟨⟨rfl, rfl⟩, zF, zB, zN, zX⟩⟩
         (simp [g9, sB2, sB3, h8, h23, h40, h46]; done)
        exact bj
       have h46 : inB s.au 1 999 = true := by simpa using hs
       refine ah rfl rfl rfl rfl (b9 rfl rfl rfl) ?_
       try dsimp only [St.put]
       refine aj rfl rfl rfl rfl (a7 rfl rfl) ?_
       refine ah rfl rfl rfl rfl (b9 rfl rfl rfl) ?_
       try dsimp only [St.put]
       refine aj rfl rfl rfl rfl (a7 rfl rfl) ?_
       refine ah rfl rfl rfl rfl (b9 rfl rfl rfl) ?_
       try dsimp only [St.put]
       refine aj rfl rfl rfl rfl (a7 rfl rfl) ?_
       refine ah rfl rfl rfl rfl (ip rfl rfl rfl (by omega)) ?_
       refine ah rfl rfl rfl rfl (ip rfl rfl rfl (by omega)) ?_
       refine ah rfl rfl rfl rfl (bw rfl rfl rfl (by omega)) ?_
       refine bu ?_
       refine bk [56] (by kernel_rfl) (by simp) ?_
       refine bc ?_ ?_
       ·try dsimp only [St.put]
        refine br rfl rfl rfl (bd rfl rfl rfl (pn _ _ _) ?_)
        refine cq [(57, none), (58, none)] (fun i => [57, 58].contains i) 0 [true, true, true, true, true, true, true, true, true, true, true, true, true, true, true, true, true, true, true, true, true, true, true, true, true, true, true, true, true, true, true, true, true, true, true, true, true, true, true, true, true, true, true, true, true, true, true, true, true, true, true, true, true, true, true, true, true, true, true] (by kernel_rfl) ?_
        refine ah rfl rfl rfl rfl (dn rfl rfl) ?_
        refine ah rfl rfl rfl rfl (cd rfl rfl (by constructor)) ?_
        refine bu ?_
        dsimp only [St.put]
        refine gk (by kernel_rfl) ?_
        refine ⟨_, ?_, ⟨⟨rfl, rfl⟩, zF, zB, zN, zX⟩⟩
        (simp [g9, sB2, sB3, h8, h23, h40, h46]; done)
       exact bj
      exact bj
     exact bj
    exact bj
   exact bj
  rintro b hst
  dsimp only at hst ⊢
  refine al rfl (fun hc => ?_) (fun hc => ?_)
  ·have hst' : g9 t s = false := by rw [hc] at hst; simpa using hst.symm
   refine yS fun _ K13 => ?_
   refine yR ?_
   refine yA rfl rfl ?_
   refine yN ?_
   dsimp only [St.put]
   refine K13 _ ?_
   refine am ?_
   refine bf rfl (by constructor) zN zS ?_
   exact vb (by simp [i5, ku hx hst'])
  have hst' : g9 t s = true := by rw [hc] at hst; simpa using hst.symm
  refine aw ?_
  refine K10 _ ?_
  refine yR ?_
  refine yM rfl rfl ?_
  refine aa rfl (bw rfl rfl rfl (by omega)) ?_
  refine yA rfl rfl ?_
  refine yN ?_
  dsimp only [St.put]
  exact ⟨k + 1, by omega, ⟨by omega, by rw [pi hx, hI.2, hst']; rfl⟩, ⟨⟨rfl, rfl⟩, zF, zB, zN, zX⟩⟩
 try replace hc := of_decide_eq_false hc
 refine ey ?_
 refine K6 _ ?_
 refine yS fun _ K14 => ?_
 refine yR ?_
 refine yA rfl rfl ?_
 refine yN ?_
 dsimp only [St.put]
 refine K14 _ ?_
 refine am ?_
 refine bf rfl (by constructor) zN zS ?_
 exact vb (by
  have h1 := hI.2
  rw [im (by omega)] at h1
  simp [i5, hid, hln, h1])
theorem um7 (t : ai) : c8 Tryz.prog 73 [b8 t] (.v (.int .i64 (g5 t))) := by
 refine dr Tryz.func73 rfl (fun m => .v) fun G nx => ?_
 simp only [Tryz.ntmps73, List.length_cons, List.length_nil, Nat.reduceAdd, Nat.reduceSub]
 refine bi fun hlt => ?_
 dsimp only at hlt
 refine yS fun _ K1 => ?_
 refine yR ?_
 try dsimp only [St.put]
 refine yB rfl rfl rfl ?_
 refine yA rfl rfl ?_
 refine yN ?_
 dsimp only [St.put]
 refine K1 _ ?_
 refine yS fun _ K2 => ?_
 refine yS fun _ K3 => ?_
 refine yR ?_
 try dsimp only [St.put]
 refine af rfl (aq rfl rfl rfl) ?_
 try dsimp only [St.put]
 refine ae rfl (bd rfl rfl rfl (umq _) ?_)
 refine aa rfl (dn rfl rfl) ?_
 refine yN ?_
 dsimp only [St.put]
 refine K3 _ ?_
 refine al rfl (fun hc => ?_) (fun hc => ?_)
 ·try replace hc := of_decide_eq_true hc
  refine yS fun _ K4 => ?_
  refine yR ?_
  refine yA rfl rfl ?_
  refine yN ?_
  dsimp only [St.put]
  refine K4 _ ?_
  refine am ?_
  refine bf rfl (by constructor) zN zS ?_
  exact vi (by simp at hc; simp [g5, hc])
 try replace hc := of_decide_eq_false hc
 refine aw ?_
 refine K2 _ ?_
 refine yS fun _ K5 => ?_
 refine yR ?_
 refine yA rfl rfl ?_
 refine yN ?_
 dsimp only [St.put]
 refine K5 _ ?_
 refine am ?_
 refine bf rfl (by constructor) zN zS ?_
 exact vi (by simp at hc; simp [g5, hc])
theorem um6 (t : ai) (e : av) : c8 Tryz.prog 33 [b8 t, val e] (.v (.int .i64 (cw t e))) := by
 refine dr Tryz.func33 rfl (fun m => .v) fun G nx => ?_
 simp only [Tryz.ntmps33, List.length_cons, List.length_nil, Nat.reduceAdd, Nat.reduceSub]
 refine bi fun hlt => ?_
 dsimp only at hlt
 refine yS fun _ K1 => ?_
 refine yR ?_
 try dsimp only [St.put]
 refine yB rfl rfl rfl ?_
 try dsimp only [St.put]
 refine yB rfl rfl rfl ?_
 refine yA rfl rfl ?_
 refine yN ?_
 dsimp only [St.put]
 refine K1 _ ?_
 refine yS fun _ K2 => ?_
 refine yS fun _ K3 => ?_
 refine yR ?_
 try dsimp only [St.put]
 refine af rfl (aq rfl rfl rfl) ?_
 try dsimp only [St.put]
 refine ae rfl (bd rfl rfl rfl (um7 _) ?_)
 refine yA rfl rfl ?_
 refine yN ?_
 dsimp only [St.put]
 refine K3 _ ?_
 refine yS fun _ K4 => ?_
 refine yR ?_
 refine yM rfl rfl ?_
 refine aa rfl (dt rfl rfl rfl) ?_
 refine yN ?_
 dsimp only [St.put]
 refine K4 _ ?_
 refine al rfl (fun hc => ?_) (fun hc => ?_)
 ·have htx : ct t = false := by
   cases h : ct t
   ·rfl
   simp [g5, h] at hc
  refine yS fun _ K5 => ?_
  refine yR ?_
  refine yM rfl rfl ?_
  refine yA rfl rfl ?_
  refine yN ?_
  dsimp only [St.put]
  refine K5 _ ?_
  refine am ?_
  refine bf rfl (by constructor) zN zS ?_
  exact vi (by simp [cw, g5, htx])
 have htx : ct t = true := by
  cases h : ct t
  ·simp [g5, h] at hc
  rfl
 refine aw ?_
 refine K2 _ ?_
 refine yS fun _ K6 => ?_
 refine yS fun _ K7 => ?_
 refine yR ?_
 try dsimp only [St.put]
 refine af rfl (aq rfl rfl rfl) ?_
 refine yE rfl rfl rfl ?_
 try dsimp only [St.put]
 refine ae rfl (bd rfl rfl rfl (um3 _ _ htx) ?_)
 refine aa rfl (dn rfl rfl) ?_
 refine yN ?_
 dsimp only [St.put]
 refine K7 _ ?_
 refine al rfl (fun hc => ?_) (fun hc => ?_)
 ·try replace hc := of_decide_eq_true hc
  refine yS fun _ K8 => ?_
  refine yR ?_
  refine yA rfl rfl ?_
  refine yN ?_
  dsimp only [St.put]
  refine K8 _ ?_
  refine am ?_
  refine bf rfl (by constructor) zN zS ?_
  exact vi (by simp at hc; simp [cw, htx, hc])
 try replace hc := of_decide_eq_false hc
 refine aw ?_
 refine K6 _ ?_
 refine yS fun _ K9 => ?_
 refine yR ?_
 refine yA rfl rfl ?_
 refine yN ?_
 dsimp only [St.put]
 refine K9 _ ?_
 refine am ?_
 refine bf rfl (by constructor) zN zS ?_
 exact vi (by simp at hc; simp [cw, htx, hc])
end Go.Proofs.YtjjklfgpffgnfaaGreatDoor
