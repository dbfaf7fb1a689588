/-
 Contracts of the program's functions of charts: where references lead, and how they are turned from one edition to another one.
-/
import Derived.Test.YtjjklfgpffgnfaaGreatDoorEcRefer
namespace Go.AB
open Go Go.RowKit
open Go.AB.Enc (cells)
open Go.PB (bv ai PlaceD cy c6 cz)
theorem rq {t : ai} {ss : List StretchD} (hS : Sound t ss) : ∀ q p, cn ss q = some p → ∃ l, fq t p = some l := fun q p h => ua hS ((kd hS.no).1 h)
/-- what is wrong with two editions -/
theorem ulx {t : ai} {e f : av} (h : gh t e f ≠ 0) : (cw t e ≠ 0 ∧ gh t e f = cw t e) ∨ (cw t e = 0 ∧ cw t f ≠ 0 ∧ gh t e f = cw t f) ∨
  (cw t e = 0 ∧ cw t f = 0 ∧ (ef e.ss).isSome = true ∧ gh t e f = 8) ∨ (cw t f = 0 ∧ bz t e = 0 ∧ (ef f.ss).isSome = true ∧ gh t e f = 8) := by
 by_cases h1 : cw t e = 0
 ·by_cases h2 : cw t f = 0
  ·by_cases h3 : bz t e = 0
   ·have h4 : gh t e f = bz t f := by simp [gh, h1, h2, h3]
    rw [h4] at h
    rcases ur h with ⟨h5, _⟩ | ⟨_, h5, h6⟩
    ·exact absurd h2 h5
    exact .inr (.inr (.inr ⟨h2, h3, h5, h4.trans h6⟩))
   have h4 : gh t e f = bz t e := by simp [gh, h1, h2, h3]
   rcases ur h3 with ⟨h5, _⟩ | ⟨_, h5, h6⟩
   ·exact absurd h1 h5
   exact .inr (.inr (.inl ⟨h1, h2, h5, h4.trans h6⟩))
  exact .inr (.inl ⟨h1, h2, by simp [gh, h1, h2]⟩)
 exact .inl ⟨h1, by simp [gh, h1]⟩
end Go.AB
namespace Go.Proofs.YtjjklfgpffgnfaaGreatDoor
set_option maxRecDepth 10000
open Go.RowKit Go.AB
open Go.AB.Enc (cells)
open Go.PB (bv ai PlaceD cy c6 cz)
theorem zr {Y : Type} (t : ai) (r : dm) (es : List av) (L : C) (G : Nat → Option GObj) (nx : Nat) (g : Y → Nat → Option GObj) (m : Nat) (hr : gx r = true) (hm : nx ≤ m) (hL : L.low m)
  (hg : (∀ n o, G n = some o → n < nx) → ∀ y n o, g y n = some o → G n = some o ∨ (n < m ∧ o.low m)) (hs : PC Tryz.prog 63 [b8 t, lst es] G nx fun r' G' nx' => ∃ y, r' = .tup [L, .v (.int .i64 0)] ∧ G' = g y ∧ nx' = m) :
  PC Tryz.prog 47 [b8 t, val r, lst es] G nx fun r' G' nx' => ∃ y, r' = .tup [L, .v (.int .i64 0)] ∧ G' = g y ∧ nx' = m := by
 refine pu (g) (m) Tryz.func47 rfl (.tup (ar hL (ar .v bl))) zN (fun hlt y => (by (repeat' (refine gt ?_ (by (try dsimp only); omega) ?_)); all_goals (first | exact ie zS | (repeat' (first | exact trivial | refine ⟨?_, ?_⟩ | exact .v | exact .any | refine .elem ?_ | exact bh _ _ | exact e9 _ _ | exact dq _ _ | exact ff _ (by (try dsimp only); omega) | exact .box (by (try dsimp only); omega) | exact ed | exact bl | exact hg hlt y | refine fa ?_ ?_ | exact .arr (by (try dsimp only); omega) | exact .own (by (try dsimp only); omega) | exact .map (by (try dsimp only); omega) | exact ez _ | refine ar ?_ ?_ | exact bh _ _))))) ?_
 simp only [Tryz.ntmps47, List.length_cons, List.length_nil, Nat.reduceAdd, Nat.reduceSub]
 refine bi fun hlt => ?_
 dsimp only at hlt
 refine yS fun _ K1 => ?_
 refine yR ?_
 try dsimp only [St.put]
 refine yB rfl rfl rfl ?_
 try dsimp only [St.put]
 refine yB rfl rfl rfl ?_
 refine yA rfl rfl ?_
 refine yA rfl rfl ?_
 refine yN ?_
 dsimp only [St.put]
 refine K1 _ ?_
 refine yS fun _ K2 => ?_
 refine yR ?_
 try dsimp only [St.put]
 refine af rfl (aq rfl rfl rfl) ?_
 refine yM rfl rfl ?_
 try dsimp only [St.put]
 refine ae rfl (i0 rfl rfl rfl hs (fun y => ?_))
 refine yM rfl rfl ?_
 refine yX rfl rfl rfl rfl ?_
 refine yX rfl rfl rfl rfl ?_
 refine yA rfl rfl ?_
 refine yA rfl rfl ?_
 refine yN ?_
 dsimp only [St.put]
 refine K2 _ ?_
 refine yS fun _ K3 => ?_
 refine yS fun _ K4 => ?_
 refine yR ?_
 refine yM rfl rfl ?_
 refine aa rfl (bt (c := false) (dt rfl rfl rfl) (by rfl)) ?_
 refine yN ?_
 dsimp only [St.put]
 refine K4 _ ?_
 refine al rfl (fun h => by cases h) (fun _ => ?_)
 refine aw ?_
 refine K3 _ ?_
 refine yS fun _ K5 => ?_
 refine yS fun _ K6 => ?_
 refine yR ?_
 refine yF rfl rfl rfl rfl ?_
 refine yL rfl rfl rfl ?_
 refine yF rfl rfl rfl rfl ?_
 refine yL rfl rfl rfl ?_
 refine yF rfl rfl rfl rfl ?_
 refine yL rfl rfl rfl ?_
 try dsimp only [St.put]
 refine ae rfl (c9 rfl rfl rfl (by decide) (by decide) zR (by decide) ?_)
 try dsimp only [St.put]
 refine ae rfl (bd rfl rfl rfl (nq 1 999 [r.ch, r.ln, r.wd]) ?_)
 refine aa rfl (bt (c := false) (dn rfl rfl) (by rw [← y7, hr]; rfl)) ?_
 refine yN ?_
 dsimp only [St.put]
 refine K6 _ ?_
 refine al rfl (fun h => by cases h) (fun _ => ?_)
 refine aw ?_
 refine K5 _ ?_
 refine yS fun _ K7 => ?_
 refine yR ?_
 refine yM rfl rfl ?_
 refine yA rfl rfl ?_
 refine yA rfl rfl ?_
 refine yN ?_
 dsimp only [St.put]
 refine K7 _ ?_
 refine am ?_
 refine ⟨y, ?_⟩
 refine dv rfl (cj (by constructor)) (cj (by constructor)) (Nat.le_refl _) (fun n o h => h) ?_ ?_
 ·exact zW
 exact zW
theorem vc (t : ai) (r : dm) (es : List av) (er : Int) (h0 : er ≠ 0) (hs : da cv Tryz.prog 63 [b8 t, lst es] (.tup [.list [] .nil, .v (.int .i64 er)])) :
  da cv Tryz.prog 47 [b8 t, val r, lst es] (.tup [.list [] .nil, .v (.int .i64 er)]) := by
 refine fy Tryz.func47 rfl (fun m => .tup (ar ed (ar .v bl))) fun G nx hF => ?_
 simp only [Tryz.ntmps47, List.length_cons, List.length_nil, Nat.reduceAdd, Nat.reduceSub]
 refine bi fun hlt => ?_
 dsimp only at hlt
 have hnx := hlt 0 _ hF
 refine yS fun _ K1 => ?_
 refine yR ?_
 try dsimp only [St.put]
 refine yB rfl rfl rfl ?_
 try dsimp only [St.put]
 refine yB rfl rfl rfl ?_
 refine yA rfl rfl ?_
 refine yA rfl rfl ?_
 refine yN ?_
 dsimp only [St.put]
 refine K1 _ ?_
 refine yS fun _ K2 => ?_
 refine yR ?_
 try dsimp only [St.put]
 refine af rfl (aq rfl rfl rfl) ?_
 refine yM rfl rfl ?_
 try dsimp only [St.put]
 refine ae rfl (eb rfl rfl rfl (hs) zG ?_)
 refine yM rfl rfl ?_
 refine yX rfl rfl rfl rfl ?_
 refine yX rfl rfl rfl rfl ?_
 refine yA rfl rfl ?_
 refine yA rfl rfl ?_
 refine yN ?_
 dsimp only [St.put]
 refine K2 _ ?_
 refine yS fun _ K3 => ?_
 refine yS fun _ K4 => ?_
 refine yR ?_
 refine yM rfl rfl ?_
 refine aa rfl (bt (c := true) (dt rfl rfl rfl) (kh h0)) ?_
 refine yN ?_
 dsimp only [St.put]
 refine K4 _ ?_
 refine al rfl (fun _ => ?_) (fun h => by cases h)
 refine yS fun _ K5 => ?_
 refine yR ?_
 refine yM rfl rfl ?_
 refine yA rfl rfl ?_
 refine yA rfl rfl ?_
 refine yN ?_
 dsimp only [St.put]
 refine K5 _ ?_
 refine am ?_
 refine je rfl (by constructor) (by constructor) zN zS ?_ ?_
 ·rfl
 rfl
theorem zt {Y : Type} (t : ai) (r : dm) (es : List av) (L : Nat → C) (g : (Nat → Option GObj) → Nat → Y → Nat → Option GObj) (m : Nat → Nat) (hr : gx r = false) (hm : ∀ nx, nx ≤ m nx)
  (hsub : ∀ (G : Nat → Option GObj) (nx : Nat), (∀ n o, G n = some o → n < nx) → ∀ y n o, G n = some o → g G nx y n = some o)
  (hs : ∀ (G : Nat → Option GObj) (nx : Nat), G 0 = some cv → PC Tryz.prog 63 [b8 t, lst es] G nx fun r' G' nx' => ∃ y, r' = .tup [L nx, .v (.int .i64 0)] ∧ G' = g G nx y ∧ nx' = m nx) :
  da cv Tryz.prog 47 [b8 t, val r, lst es] (.tup [.list [] .nil, .v (.int .i64 2)]) := by
 refine fy Tryz.func47 rfl (fun m => .tup (ar ed (ar .v bl))) fun G nx hF => ?_
 simp only [Tryz.ntmps47, List.length_cons, List.length_nil, Nat.reduceAdd, Nat.reduceSub]
 refine bi fun hlt => ?_
 dsimp only at hlt
 have hnx := hlt 0 _ hF
 have hm' := hm nx
 refine yS fun _ K1 => ?_
 refine yR ?_
 try dsimp only [St.put]
 refine yB rfl rfl rfl ?_
 try dsimp only [St.put]
 refine yB rfl rfl rfl ?_
 refine yA rfl rfl ?_
 refine yA rfl rfl ?_
 refine yN ?_
 dsimp only [St.put]
 refine K1 _ ?_
 refine yS fun _ K2 => ?_
 refine yR ?_
 try dsimp only [St.put]
 refine af rfl (aq rfl rfl rfl) ?_
 refine yM rfl rfl ?_
 try dsimp only [St.put]
 refine ae rfl (i0 rfl rfl rfl (hs _ _ hF) (fun y => ?_))
 refine yM rfl rfl ?_
 refine yX rfl rfl rfl rfl ?_
 refine yX rfl rfl rfl rfl ?_
 refine yA rfl rfl ?_
 refine yA rfl rfl ?_
 refine yN ?_
 dsimp only [St.put]
 refine K2 _ ?_
 refine yS fun _ K3 => ?_
 refine yS fun _ K4 => ?_
 refine yR ?_
 refine yM rfl rfl ?_
 refine aa rfl (bt (c := false) (dt rfl rfl rfl) (by rfl)) ?_
 refine yN ?_
 dsimp only [St.put]
 refine K4 _ ?_
 refine al rfl (fun h => by cases h) (fun _ => ?_)
 refine aw ?_
 refine K3 _ ?_
 refine yS fun _ K5 => ?_
 refine yS fun _ K6 => ?_
 refine yR ?_
 refine yF rfl rfl rfl rfl ?_
 refine yL rfl rfl rfl ?_
 refine yF rfl rfl rfl rfl ?_
 refine yL rfl rfl rfl ?_
 refine yF rfl rfl rfl rfl ?_
 refine yL rfl rfl rfl ?_
 try dsimp only [St.put]
 refine ae rfl (c9 rfl rfl rfl (by decide) (by decide) zR (by decide) ?_)
 try dsimp only [St.put]
 refine ae rfl (bd rfl rfl rfl (nq 1 999 [r.ch, r.ln, r.wd]) ?_)
 refine aa rfl (bt (c := true) (dn rfl rfl) (by rw [← y7, hr]; rfl)) ?_
 refine yN ?_
 dsimp only [St.put]
 refine K6 _ ?_
 refine al rfl (fun _ => ?_) (fun h => by cases h)
 refine yS fun _ K7 => ?_
 refine yR ?_
 refine yA rfl rfl ?_
 refine yA rfl rfl ?_
 refine yN ?_
 dsimp only [St.put]
 refine K7 _ ?_
 refine am ?_
 refine dv rfl (cj (by constructor)) (cj (by constructor)) (hm nx) (fun n o h => hsub G nx hlt y n o h) ?_ ?_
 ·exact zW
 exact zW
theorem zu (t : ai) (e : av) (r : dm) (hl : e.ss.length ≤ 20) (h : bz t e = 0) (hr : gx r = true) (G : Nat → Option GObj) (nx : Nat) (hF : G 0 = some cv) :
  PC Tryz.prog 47 [b8 t, val r, lst [e]] G nx fun r' G' nx' => ∃ y : Nat × Nat, r' = .tup [.list [[.elem (gi t e (nx + 1 + 1) (nx + 1 + 1 + 1))]] .none, .v (.int .i64 0)] ∧ G' = (ak (ak G (nx + 1 + 1) (bo Tryz.prog 115 y.1 (az ((ax e.ss))))) (nx + 1 + 1 + 1) (bo Tryz.prog 115 y.2 (az ((cn e.ss))))) ∧ nx' = nx + 1 + 1 + 1 + 1 :=
 zr t r [e] _ G nx (fun y : Nat × Nat => (ak (ak G (nx + 1 + 1) (bo Tryz.prog 115 y.1 (az ((ax e.ss))))) (nx + 1 + 1 + 1) (bo Tryz.prog 115 y.2 (az ((cn e.ss)))))) _ hr (by omega) (.list (by intro r hr c hc; rw [List.mem_singleton] at hr; subst hr; rw [List.mem_singleton] at hc; subst hc; exact .elem (ar .v (ar (bh _ _) (ar (bh _ _) (ar (.map (show nx + 1 + 1 < nx + 1 + 1 + 1 + 1 by omega)) (ar (.map (show nx + 1 + 1 + 1 < nx + 1 + 1 + 1 + 1 by omega)) bl)))))) (by simp))
  (fun hlt y => gt (gt (ie fun n o h => h) (by omega) (gg (f9 _ _))) (by omega) (gg (f9 _ _))) (pp t e hl h G nx hF)
theorem zv (t : ai) (e : av) (r : dm) (hl : e.ss.length ≤ 20) (h : bz t e = 0) (hr : gx r = false) :
  da cv Tryz.prog 47 [b8 t, val r, lst [e]] (.tup [.list [] .nil, .v (.int .i64 2)]) :=
 zt t r [e] (fun nx => .list [[.elem (gi t e (nx + 1 + 1) (nx + 1 + 1 + 1))]] .none) (fun G nx (y : Nat × Nat) => (ak (ak G (nx + 1 + 1) (bo Tryz.prog 115 y.1 (az ((ax e.ss))))) (nx + 1 + 1 + 1) (bo Tryz.prog 115 y.2 (az ((cn e.ss)))))) (fun nx => nx + 1 + 1 + 1 + 1) hr (fun nx => by omega) (fun G nx hlt y n o ho => by
  have := hlt n o ho
  rw [io (by omega), io (by omega)]; exact ho) (fun G nx hF => pp t e hl h G nx hF)
theorem ucr (t : ai) (e : av) (r : dm) (er : Int) (he0 : er ≠ 0) (hcall : da cv Tryz.prog 47 [b8 t, val r, lst [e]] (.tup [.list [] .nil, .v (.int .i64 er)])) :
  da cv Tryz.prog 16 [b8 t, val e, val r] (.tup [val (⟨0, 0, 0⟩ : PlaceD), .v (.int .i64 er)]) := by
 refine fy Tryz.func16 rfl (fun m => .tup (ar (dq _ _) (ar .v bl))) fun G nx hF => ?_
 simp only [Tryz.ntmps16, List.length_cons, List.length_nil, Nat.reduceAdd, Nat.reduceSub]
 refine bi fun hlt => ?_
 dsimp only at hlt
 have hnx := hlt 0 _ hF
 refine yS fun _ K1 => ?_
 refine yR ?_
 try dsimp only [St.put]
 refine yB rfl rfl rfl ?_
 try dsimp only [St.put]
 refine yB rfl rfl rfl ?_
 try dsimp only [St.put]
 refine yB rfl rfl rfl ?_
 try dsimp only [St.put]
 refine ae rfl (bp rfl ?_)
 refine yA rfl rfl ?_
 refine yN ?_
 dsimp only [St.put]
 refine K1 _ ?_
 refine yS fun _ K2 => ?_
 refine yR ?_
 try dsimp only [St.put]
 refine af rfl (aq rfl rfl rfl) ?_
 refine yE rfl rfl rfl ?_
 refine yE rfl rfl rfl ?_
 try dsimp only [St.put]
 refine ae rfl (c9 rfl rfl rfl (by decide) (by decide) zR (by decide) ?_)
 try dsimp only [St.put]
 refine ae rfl (eb rfl rfl rfl (hcall) zG ?_)
 refine yM rfl rfl ?_
 refine yX rfl rfl rfl rfl ?_
 refine yX rfl rfl rfl rfl ?_
 refine yA rfl rfl ?_
 refine yA rfl rfl ?_
 refine yN ?_
 dsimp only [St.put]
 refine K2 _ ?_
 refine yS fun _ K3 => ?_
 refine yS fun _ K4 => ?_
 refine yR ?_
 refine yM rfl rfl ?_
 refine aa rfl (bt (c := true) (dt rfl rfl rfl) (kh he0)) ?_
 refine yN ?_
 dsimp only [St.put]
 refine K4 _ ?_
 refine al rfl (fun _ => ?_) (fun h => by cases h)
 refine yS fun _ K5 => ?_
 refine yR ?_
 refine aa rfl (du rfl rfl) ?_
 refine yM rfl rfl ?_
 try dsimp only [St.put]
 refine ae rfl (ay rfl rfl rfl zG rfl rfl (by rfl) ?_)
 refine yA rfl rfl ?_
 refine yN ?_
 dsimp only [St.put]
 refine K5 _ ?_
 refine am ?_
 refine dv rfl (et rfl zG (by rfl) (by first | exact List.cons_ne_nil _ _ | (simp; done) | (simp [putAt]; done)) rfl) (cj (by constructor)) zN zS ?_ ?_
 ·exact zW
 exact zW
theorem ulg (t : ai) (e : av) (r : dm) (hl : e.ss.length ≤ 20) (h : bz t e = 0) (hr : gx r = true) :
  da cv Tryz.prog 16 [b8 t, val e, val r] (.tup [val (jo t e r), .v (.int .i64 (jc t e r))]) := by
 refine fy Tryz.func16 rfl (fun m => .tup (ar (dq _ _) (ar .v bl))) fun G nx hF => ?_
 simp only [Tryz.ntmps16, List.length_cons, List.length_nil, Nat.reduceAdd, Nat.reduceSub]
 refine bi fun hlt => ?_
 dsimp only at hlt
 have hnx := hlt 0 _ hF
 have hS := mn h
 refine yS fun _ K1 => ?_
 refine yR ?_
 try dsimp only [St.put]
 refine yB rfl rfl rfl ?_
 try dsimp only [St.put]
 refine yB rfl rfl rfl ?_
 try dsimp only [St.put]
 refine yB rfl rfl rfl ?_
 try dsimp only [St.put]
 refine ae rfl (bp rfl ?_)
 refine yA rfl rfl ?_
 refine yN ?_
 dsimp only [St.put]
 refine K1 _ ?_
 refine yS fun _ K2 => ?_
 refine yR ?_
 try dsimp only [St.put]
 refine af rfl (aq rfl rfl rfl) ?_
 refine yE rfl rfl rfl ?_
 refine yE rfl rfl rfl ?_
 try dsimp only [St.put]
 refine ae rfl (c9 rfl rfl rfl (by decide) (by decide) zR (by decide) ?_)
 try dsimp only [St.put]
 refine ae rfl (i0 rfl rfl rfl (zu t e r hl h hr _ _ zG) (fun y => ?_))
 refine yM rfl rfl ?_
 refine yX rfl rfl rfl rfl ?_
 refine yX rfl rfl rfl rfl ?_
 refine yA rfl rfl ?_
 refine yA rfl rfl ?_
 refine yN ?_
 dsimp only [St.put]
 refine K2 _ ?_
 refine yS fun _ K3 => ?_
 refine yS fun _ K4 => ?_
 refine yR ?_
 refine yM rfl rfl ?_
 refine aa rfl (bt (c := false) (dt rfl rfl rfl) (by rfl)) ?_
 refine yN ?_
 dsimp only [St.put]
 refine K4 _ ?_
 refine al rfl (fun h => by cases h) (fun _ => ?_)
 refine aw ?_
 refine K3 _ ?_
 refine yS fun _ K5 => ?_
 refine la [(0, none), (1, none), (2, none), (3, none)] (fun _ => false) (fun i => [0, 1].contains i) 7 [true, true, true, true, false, false, false, false, false, false, false] (by kernel_rfl) (by kernel_rfl) ?_
 refine xM rfl rfl rfl rfl rfl ?_
 try dsimp only [St.put]
 refine ah rfl rfl rfl rfl (b7 (k := 0) rfl rfl rfl (by first | rfl | omega) rfl rfl) ?_
 try dsimp only [St.put]
 refine aj rfl rfl rfl rfl (a7 rfl rfl) ?_
 try dsimp only [St.put]
 refine aj rfl rfl rfl rfl (aq rfl rfl (Enc.len _)) ?_
 refine bu ?_
 refine bk [4, 8] (by kernel_rfl) (by simp) ?_
 refine bc ?_ ?_
 ·try dsimp only [St.put]
  refine br rfl rfl rfl (f8 rfl rfl rfl (rp t e _ _ _ (cn e.ss) r hS.tx (rq hS) hr _ _ (by dsimp only [St.put]; omega) (by dsimp only [St.put]; omega) zG) ?_)
  refine cq [(5, none), (6, none), (7, none)] (fun i => [5, 6, 7].contains i) 3 [true, true, true, true, true, true, true, true, false, false, false] (by kernel_rfl) ?_
  refine xM rfl rfl rfl rfl rfl ?_
  refine ah rfl rfl rfl rfl (c7 rfl rfl rfl) ?_
  refine ah rfl rfl rfl rfl (c7 rfl rfl rfl) ?_
  refine bu ?_
  refine bk [8] (by kernel_rfl) (by simp) ?_
  refine bc ?_ ?_
  ·try dsimp only [St.put]
   refine br rfl rfl rfl (bp rfl ?_)
   refine bk [9] (by kernel_rfl) (by simp) ?_
   refine bc ?_ ?_
   ·try dsimp only [St.put]
    refine br rfl rfl rfl (ay rfl rfl rfl zG rfl rfl (by rfl) ?_)
    refine cq [(10, none)] (fun i => [10].contains i) 0 [true, true, true, true, true, true, true, true, true, true, true] (by kernel_rfl) ?_
    refine ah rfl rfl rfl rfl (cg rfl (by constructor)) ?_
    refine bu ?_
    dsimp only [St.put]
    refine gk (by kernel_rfl) ?_
    refine K5 _ ?_
    refine yS fun _ K6 => ?_
    refine yS fun _ K7 => ?_
    refine yR ?_
    refine yM rfl rfl ?_
    refine aa rfl (dn rfl rfl) ?_
    refine yN ?_
    dsimp only [St.put]
    refine K7 _ ?_
    refine al rfl (fun hc => ?_) (fun hc => ?_)
    ·have hf : iv t e.ss r = none := by simpa [j9] using hc
     have hE : jc t e r = 6 := by simp [jc, j8, h, hr, hf]
     have hV : jo t e r = ⟨0, 0, 0⟩ := by simp [jo, hE]
     refine yS fun _ K8 => ?_
     refine yR ?_
     refine aa rfl (du rfl rfl) ?_
     try dsimp only [St.put]
     refine ae rfl (ay rfl rfl rfl zG rfl rfl (by rfl) ?_)
     refine yA rfl rfl ?_
     refine yN ?_
     dsimp only [St.put]
     refine K8 _ ?_
     refine am ?_
     refine dv rfl (et rfl zG (by rfl) (by first | exact List.cons_ne_nil _ _ | (simp; done) | (simp [putAt]; done)) rfl) (cj (by constructor)) zN zS ?_ ?_
     ·rw [hV]
      exact zW
     exact Wk.of_eq (vi hE.symm)
    have hf : (iv t e.ss r).isSome = true := by simpa [j9] using hc
    have hE : jc t e r = 0 := by simp [jc, j8, h, hr, hf]
    have hV : jo t e r = (ldO t (cn e.ss) r).getD ⟨0, 0, 0⟩ := by simp [jo, hE, j9]
    refine aw ?_
    refine K6 _ ?_
    refine yS fun _ K9 => ?_
    refine yR ?_
    try dsimp only [St.put]
    refine af rfl (dc rfl rfl zG trivial (by rfl)) ?_
    try dsimp only [St.put]
    refine ae rfl (ay rfl rfl rfl zG rfl rfl (by rfl) ?_)
    refine yA rfl rfl ?_
    refine yN ?_
    dsimp only [St.put]
    refine K9 _ ?_
    refine am ?_
    refine dv rfl (et rfl zG (by rfl) (by first | exact List.cons_ne_nil _ _ | (simp; done) | (simp [putAt]; done)) rfl) (cj (by constructor)) zN zS ?_ ?_
    ·rw [hV]
     exact zW
    exact Wk.of_eq (vi hE.symm)
   exact bj
  exact bj
 refine bc ?_ ?_
 ·try dsimp only [St.put]
  refine br rfl rfl rfl (bp rfl ?_)
  refine bk [4] (by kernel_rfl) (by simp) ?_
  refine bc ?_ ?_
  ·try dsimp only [St.put]
   refine br rfl rfl rfl (f8 rfl rfl rfl (rp t e _ _ _ (cn e.ss) r hS.tx (rq hS) hr _ _ (by dsimp only [St.put]; omega) (by dsimp only [St.put]; omega) zG) ?_)
   refine cq [(5, none), (6, none), (7, none)] (fun i => [5, 6, 7].contains i) 2 [true, true, true, true, true, true, true, true, true, false, false] (by kernel_rfl) ?_
   refine xM rfl rfl rfl rfl rfl ?_
   refine ah rfl rfl rfl rfl (c7 rfl rfl rfl) ?_
   refine ah rfl rfl rfl rfl (c7 rfl rfl rfl) ?_
   refine bu ?_
   refine bk [9] (by kernel_rfl) (by simp) ?_
   refine bc ?_ ?_
   ·try dsimp only [St.put]
    refine br rfl rfl rfl (ay rfl rfl rfl zG rfl rfl (by rfl) ?_)
    refine cq [(10, none)] (fun i => [10].contains i) 0 [true, true, true, true, true, true, true, true, true, true, true] (by kernel_rfl) ?_
    refine ah rfl rfl rfl rfl (cg rfl (by constructor)) ?_
    refine bu ?_
    dsimp only [St.put]
    refine gk (by kernel_rfl) ?_
    refine K5 _ ?_
    refine yS fun _ K10 => ?_
    refine yS fun _ K11 => ?_
    refine yR ?_
    refine yM rfl rfl ?_
    refine aa rfl (dn rfl rfl) ?_
    refine yN ?_
    dsimp only [St.put]
    refine K11 _ ?_
    refine al rfl (fun hc => ?_) (fun hc => ?_)
    ·have hf : iv t e.ss r = none := by simpa [j9] using hc
     have hE : jc t e r = 6 := by simp [jc, j8, h, hr, hf]
     have hV : jo t e r = ⟨0, 0, 0⟩ := by simp [jo, hE]
     refine yS fun _ K12 => ?_
     refine yR ?_
     refine aa rfl (du rfl rfl) ?_
     try dsimp only [St.put]
     refine ae rfl (ay rfl rfl rfl zG rfl rfl (by rfl) ?_)
     refine yA rfl rfl ?_
     refine yN ?_
     dsimp only [St.put]
     refine K12 _ ?_
     refine am ?_
     refine dv rfl (et rfl zG (by rfl) (by first | exact List.cons_ne_nil _ _ | (simp; done) | (simp [putAt]; done)) rfl) (cj (by constructor)) zN zS ?_ ?_
     ·rw [hV]
      exact zW
     exact Wk.of_eq (vi hE.symm)
    have hf : (iv t e.ss r).isSome = true := by simpa [j9] using hc
    have hE : jc t e r = 0 := by simp [jc, j8, h, hr, hf]
    have hV : jo t e r = (ldO t (cn e.ss) r).getD ⟨0, 0, 0⟩ := by simp [jo, hE, j9]
    refine aw ?_
    refine K10 _ ?_
    refine yS fun _ K13 => ?_
    refine yR ?_
    try dsimp only [St.put]
    refine af rfl (dc rfl rfl zG trivial (by rfl)) ?_
    try dsimp only [St.put]
    refine ae rfl (ay rfl rfl rfl zG rfl rfl (by rfl) ?_)
    refine yA rfl rfl ?_
    refine yN ?_
    dsimp only [St.put]
    refine K13 _ ?_
    refine am ?_
    refine dv rfl (et rfl zG (by rfl) (by first | exact List.cons_ne_nil _ _ | (simp; done) | (simp [putAt]; done)) rfl) (cj (by constructor)) zN zS ?_ ?_
    ·rw [hV]
     exact zW
    exact Wk.of_eq (vi hE.symm)
   exact bj
  exact bj
 exact bj
theorem ulf (t : ai) (e : av) (r : dm) (hl : e.ss.length ≤ 20) :
  da cv Tryz.prog 16 [b8 t, val e, val r] (.tup [val (jo t e r), .v (.int .i64 (jc t e r))]) := by
 by_cases h : bz t e = 0
 ·cases hr : gx r with
  | true => exact ulg t e r hl h hr
  | false =>
   have hE : jc t e r = 2 := by simp [jc, j8, h, hr]
   have hV : jo t e r = ⟨0, 0, 0⟩ := by simp [jo, hE]
   rw [hV, hE]
   exact ucr t e r 2 (by decide) (zv t e r hl h hr)
 have hE : jc t e r = bz t e := by simp [jc, h]
 have hV : jo t e r = ⟨0, 0, 0⟩ := by simp [jo, hE, h]
 rw [hV, hE]
 exact ucr t e r _ h (vc t r [e] _ h (qr t e hl h))
end Go.Proofs.YtjjklfgpffgnfaaGreatDoor
