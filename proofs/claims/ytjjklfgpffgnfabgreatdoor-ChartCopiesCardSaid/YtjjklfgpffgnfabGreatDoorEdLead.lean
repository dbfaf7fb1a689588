/-
 Contracts of the program's functions of charts: where references lead, and how they are turned from one edition to another one.
-/
import Derived.Test.YtjjklfgpffgnfabGreatDoorEcRefer
namespace Go.AB
open Go Go.RowKit
open Go.AB.Enc (cells)
open Go.PB (bh af PlaceD ar bp cj)
theorem s1 {t : af} {ss : List StretchD} (hS : Sound t ss) : ∀ q p, cn ss q = some p → ∃ l, ei t p = some l := fun q p h => vu hS ((kp hS.no).1 h)
/-- what is wrong with two editions -/
theorem upw {t : af} {e f : aw} (h : ge t e f ≠ 0) : (ct t e ≠ 0 ∧ ge t e f = ct t e) ∨ (ct t e = 0 ∧ ct t f ≠ 0 ∧ ge t e f = ct t f) ∨
  (ct t e = 0 ∧ ct t f = 0 ∧ (ff e.ss).isSome = true ∧ ge t e f = 8) ∨ (ct t f = 0 ∧ cb t e = 0 ∧ (ff f.ss).isSome = true ∧ ge t e f = 8) := by
 by_cases h1 : ct t e = 0
 ·by_cases h2 : ct t f = 0
  ·by_cases h3 : cb t e = 0
   ·have h4 : ge t e f = cb t f := by simp [ge, h1, h2, h3]
    rw [h4] at h
    rcases wu h with ⟨h5, _⟩ | ⟨_, h5, h6⟩
    ·exact absurd h2 h5
    exact .inr (.inr (.inr ⟨h2, h3, h5, h4.trans h6⟩))
   have h4 : ge t e f = cb t e := by simp [ge, h1, h2, h3]
   rcases wu h3 with ⟨h5, _⟩ | ⟨_, h5, h6⟩
   ·exact absurd h1 h5
   exact .inr (.inr (.inl ⟨h1, h2, h5, h4.trans h6⟩))
  exact .inr (.inl ⟨h1, h2, by simp [ge, h1, h2]⟩)
 exact .inl ⟨h1, by simp [ge, h1]⟩
end Go.AB
namespace Go.Proofs.YtjjklfgpffgnfabGreatDoor
set_option maxRecDepth 10000
open Go.RowKit Go.AB
open Go.AB.Enc (cells)
open Go.PB (bh af PlaceD ar bp cj)
theorem ubn {Y : Type} (t : af) (r : dd) (es : List aw) (L : C) (G : Nat → Option GObj) (nx : Nat) (g : Y → Nat → Option GObj) (m : Nat) (hr : gt r = true) (hm : nx ≤ m) (hL : L.low m)
  (hg : (∀ n o, G n = some o → n < nx) → ∀ y n o, g y n = some o → G n = some o ∨ (n < m ∧ o.low m)) (hs : PC Tryz.prog 52 [b7 t, lst es] G nx fun r' G' nx' => ∃ y, r' = .tup [L, .v (.int .i64 0)] ∧ G' = g y ∧ nx' = m) :
  PC Tryz.prog 42 [b7 t, val r, lst es] G nx fun r' G' nx' => ∃ y, r' = .tup [L, .v (.int .i64 0)] ∧ G' = g y ∧ nx' = m := by
 refine qg (g) (m) Tryz.func42 rfl (.tup (am hL (am .v bn))) zN (fun hlt y => (by (repeat' (refine f9 ?_ (by (try dsimp only); omega) ?_)); all_goals (first | exact gw zS | (repeat' (first | exact trivial | refine ⟨?_, ?_⟩ | exact .v | exact .any | refine .elem ?_ | exact bd _ _ | exact ed _ _ | exact da _ _ | exact eg _ (by (try dsimp only); omega) | exact .box (by (try dsimp only); omega) | exact dp | exact bn | exact hg hlt y | refine ef ?_ ?_ | exact .arr (by (try dsimp only); omega) | exact .own (by (try dsimp only); omega) | exact .map (by (try dsimp only); omega) | exact du _ | refine am ?_ ?_ | exact bd _ _))))) ?_
 simp only [Tryz.ntmps42, List.length_cons, List.length_nil, Nat.reduceAdd, Nat.reduceSub]
 refine bf fun hlt => ?_
 dsimp only at hlt
 refine yS fun _ K1 => ?_
 refine yR ?_
 try dsimp only [St.put]
 refine yB rfl rfl rfl ?_
 try dsimp only [St.put]
 refine yB rfl rfl rfl ?_
 refine yA rfl rfl ?_
 refine yA rfl rfl ?_
 refine yN ?_
 dsimp only [St.put]
 refine K1 _ ?_
 refine yS fun _ K2 => ?_
 refine yR ?_
 try dsimp only [St.put]
 refine ba rfl (bk rfl rfl rfl) ?_
 refine yM rfl rfl ?_
 try dsimp only [St.put]
 refine ae rfl (iy rfl rfl rfl hs (fun y => ?_))
 refine yM rfl rfl ?_
 refine yX rfl rfl rfl rfl ?_
 refine yX rfl rfl rfl rfl ?_
 refine yA rfl rfl ?_
 refine yA rfl rfl ?_
 refine yN ?_
 dsimp only [St.put]
 refine K2 _ ?_
 refine yS fun _ K3 => ?_
 refine yS fun _ K4 => ?_
 refine yR ?_
 refine yM rfl rfl ?_
 refine aa rfl (br (c := false) (cz rfl rfl rfl) (by rfl)) ?_
 refine yN ?_
 dsimp only [St.put]
 refine K4 _ ?_
 refine ak rfl (fun h => by cases h) (fun _ => ?_)
 refine aq ?_
 refine K3 _ ?_
 refine yS fun _ K5 => ?_
 refine yS fun _ K6 => ?_
 refine yR ?_
 refine yF rfl rfl rfl rfl ?_
 refine yL rfl rfl rfl ?_
 refine yF rfl rfl rfl rfl ?_
 refine yL rfl rfl rfl ?_
 refine yF rfl rfl rfl rfl ?_
 refine yL rfl rfl rfl ?_
 try dsimp only [St.put]
 refine ae rfl (cq rfl rfl rfl (by decide) (by decide) zR (by decide) ?_)
 try dsimp only [St.put]
 refine ae rfl (a7 rfl rfl rfl (n1 1 999 [r.ch, r.ln, r.wd]) ?_)
 refine aa rfl (br (c := false) (c9 rfl rfl) (by rw [← uaw, hr]; rfl)) ?_
 refine yN ?_
 dsimp only [St.put]
 refine K6 _ ?_
 refine ak rfl (fun h => by cases h) (fun _ => ?_)
 refine aq ?_
 refine K5 _ ?_
 refine yS fun _ K7 => ?_
 refine yR ?_
 refine yM rfl rfl ?_
 refine yA rfl rfl ?_
 refine yA rfl rfl ?_
 refine yN ?_
 dsimp only [St.put]
 refine K7 _ ?_
 refine aj ?_
 refine ⟨y, ?_⟩
 refine dj rfl (ci (by constructor)) (ci (by constructor)) (Nat.le_refl _) (fun n o h => h) ?_ ?_
 ·exact zW
 exact zW
theorem xk (t : af) (r : dd) (es : List aw) (er : Int) (h0 : er ≠ 0) (hs : c8 cr Tryz.prog 52 [b7 t, lst es] (.tup [.list [] .nil, .v (.int .i64 er)])) :
  c8 cr Tryz.prog 42 [b7 t, val r, lst es] (.tup [.list [] .nil, .v (.int .i64 er)]) := by
 refine fw Tryz.func42 rfl (fun m => .tup (am dp (am .v bn))) fun G nx hF => ?_
 simp only [Tryz.ntmps42, List.length_cons, List.length_nil, Nat.reduceAdd, Nat.reduceSub]
 refine bf fun hlt => ?_
 dsimp only at hlt
 have hnx := hlt 0 _ hF
 refine yS fun _ K1 => ?_
 refine yR ?_
 try dsimp only [St.put]
 refine yB rfl rfl rfl ?_
 try dsimp only [St.put]
 refine yB rfl rfl rfl ?_
 refine yA rfl rfl ?_
 refine yA rfl rfl ?_
 refine yN ?_
 dsimp only [St.put]
 refine K1 _ ?_
 refine yS fun _ K2 => ?_
 refine yR ?_
 try dsimp only [St.put]
 refine ba rfl (bk rfl rfl rfl) ?_
 refine yM rfl rfl ?_
 try dsimp only [St.put]
 refine ae rfl (dq rfl rfl rfl (hs) zG ?_)
 refine yM rfl rfl ?_
 refine yX rfl rfl rfl rfl ?_
 refine yX rfl rfl rfl rfl ?_
 refine yA rfl rfl ?_
 refine yA rfl rfl ?_
 refine yN ?_
 dsimp only [St.put]
 refine K2 _ ?_
 refine yS fun _ K3 => ?_
 refine yS fun _ K4 => ?_
 refine yR ?_
 refine yM rfl rfl ?_
 refine aa rfl (br (c := true) (cz rfl rfl rfl) (lf h0)) ?_
 refine yN ?_
 dsimp only [St.put]
 refine K4 _ ?_
 refine ak rfl (fun _ => ?_) (fun h => by cases h)
 refine yS fun _ K5 => ?_
 refine yR ?_
 refine yM rfl rfl ?_
 refine yA rfl rfl ?_
 refine yA rfl rfl ?_
 refine yN ?_
 dsimp only [St.put]
 refine K5 _ ?_
 refine aj ?_
 refine ix rfl (by constructor) (by constructor) zN zS ?_ ?_
 ·rfl
 rfl
theorem ubo {Y : Type} (t : af) (r : dd) (es : List aw) (L : Nat → C) (g : (Nat → Option GObj) → Nat → Y → Nat → Option GObj) (m : Nat → Nat) (hr : gt r = false) (hm : ∀ nx, nx ≤ m nx)
  (hsub : ∀ (G : Nat → Option GObj) (nx : Nat), (∀ n o, G n = some o → n < nx) → ∀ y n o, G n = some o → g G nx y n = some o)
  (hs : ∀ (G : Nat → Option GObj) (nx : Nat), G 0 = some cr → PC Tryz.prog 52 [b7 t, lst es] G nx fun r' G' nx' => ∃ y, r' = .tup [L nx, .v (.int .i64 0)] ∧ G' = g G nx y ∧ nx' = m nx) :
  c8 cr Tryz.prog 42 [b7 t, val r, lst es] (.tup [.list [] .nil, .v (.int .i64 2)]) := by
 refine fw Tryz.func42 rfl (fun m => .tup (am dp (am .v bn))) fun G nx hF => ?_
 simp only [Tryz.ntmps42, List.length_cons, List.length_nil, Nat.reduceAdd, Nat.reduceSub]
 refine bf fun hlt => ?_
 dsimp only at hlt
 have hnx := hlt 0 _ hF
 have hm' := hm nx
 refine yS fun _ K1 => ?_
 refine yR ?_
 try dsimp only [St.put]
 refine yB rfl rfl rfl ?_
 try dsimp only [St.put]
 refine yB rfl rfl rfl ?_
 refine yA rfl rfl ?_
 refine yA rfl rfl ?_
 refine yN ?_
 dsimp only [St.put]
 refine K1 _ ?_
 refine yS fun _ K2 => ?_
 refine yR ?_
 try dsimp only [St.put]
 refine ba rfl (bk rfl rfl rfl) ?_
 refine yM rfl rfl ?_
 try dsimp only [St.put]
 refine ae rfl (iy rfl rfl rfl (hs _ _ hF) (fun y => ?_))
 refine yM rfl rfl ?_
 refine yX rfl rfl rfl rfl ?_
 refine yX rfl rfl rfl rfl ?_
 refine yA rfl rfl ?_
 refine yA rfl rfl ?_
 refine yN ?_
 dsimp only [St.put]
 refine K2 _ ?_
 refine yS fun _ K3 => ?_
 refine yS fun _ K4 => ?_
 refine yR ?_
 refine yM rfl rfl ?_
 refine aa rfl (br (c := false) (cz rfl rfl rfl) (by rfl)) ?_
 refine yN ?_
 dsimp only [St.put]
 refine K4 _ ?_
 refine ak rfl (fun h => by cases h) (fun _ => ?_)
 refine aq ?_
 refine K3 _ ?_
 refine yS fun _ K5 => ?_
 refine yS fun _ K6 => ?_
 refine yR ?_
 refine yF rfl rfl rfl rfl ?_
 refine yL rfl rfl rfl ?_
 refine yF rfl rfl rfl rfl ?_
 refine yL rfl rfl rfl ?_
 refine yF rfl rfl rfl rfl ?_
 refine yL rfl rfl rfl ?_
 try dsimp only [St.put]
 refine ae rfl (cq rfl rfl rfl (by decide) (by decide) zR (by decide) ?_)
 try dsimp only [St.put]
 refine ae rfl (a7 rfl rfl rfl (n1 1 999 [r.ch, r.ln, r.wd]) ?_)
 refine aa rfl (br (c := true) (c9 rfl rfl) (by rw [← uaw, hr]; rfl)) ?_
 refine yN ?_
 dsimp only [St.put]
 refine K6 _ ?_
 refine ak rfl (fun _ => ?_) (fun h => by cases h)
 refine yS fun _ K7 => ?_
 refine yR ?_
 refine yA rfl rfl ?_
 refine yA rfl rfl ?_
 refine yN ?_
 dsimp only [St.put]
 refine K7 _ ?_
 refine aj ?_
 refine dj rfl (ci (by constructor)) (ci (by constructor)) (hm nx) (fun n o h => hsub G nx hlt y n o h) ?_ ?_
 ·exact zW
 exact zW
theorem ubp (t : af) (e : aw) (r : dd) (hl : e.ss.length ≤ 20) (h : cb t e = 0) (hr : gt r = true) (G : Nat → Option GObj) (nx : Nat) (hF : G 0 = some cr) :
  PC Tryz.prog 42 [b7 t, val r, lst [e]] G nx fun r' G' nx' => ∃ y : Nat × Nat, r' = .tup [.list [[.elem (gg t e (nx + 1 + 1) (nx + 1 + 1 + 1))]] .none, .v (.int .i64 0)] ∧ G' = (ah (ah G (nx + 1 + 1) (bl Tryz.prog 95 y.1 (a8 ((av e.ss))))) (nx + 1 + 1 + 1) (bl Tryz.prog 95 y.2 (a8 ((cn e.ss))))) ∧ nx' = nx + 1 + 1 + 1 + 1 :=
 ubn t r [e] _ G nx (fun y : Nat × Nat => (ah (ah G (nx + 1 + 1) (bl Tryz.prog 95 y.1 (a8 ((av e.ss))))) (nx + 1 + 1 + 1) (bl Tryz.prog 95 y.2 (a8 ((cn e.ss)))))) _ hr (by omega) (.list (by intro r hr c hc; rw [List.mem_singleton] at hr; subst hr; rw [List.mem_singleton] at hc; subst hc; exact .elem (am .v (am (bd _ _) (am (bd _ _) (am (.map (show nx + 1 + 1 < nx + 1 + 1 + 1 + 1 by omega)) (am (.map (show nx + 1 + 1 + 1 < nx + 1 + 1 + 1 + 1 by omega)) bn)))))) (by simp))
  (fun hlt y => f9 (f9 (gw fun n o h => h) (by omega) (gd (fo _ _))) (by omega) (gd (fo _ _))) (qc t e hl h G nx hF)
theorem ubq (t : af) (e : aw) (r : dd) (hl : e.ss.length ≤ 20) (h : cb t e = 0) (hr : gt r = false) :
  c8 cr Tryz.prog 42 [b7 t, val r, lst [e]] (.tup [.list [] .nil, .v (.int .i64 2)]) :=
 ubo t r [e] (fun nx => .list [[.elem (gg t e (nx + 1 + 1) (nx + 1 + 1 + 1))]] .none) (fun G nx (y : Nat × Nat) => (ah (ah G (nx + 1 + 1) (bl Tryz.prog 95 y.1 (a8 ((av e.ss))))) (nx + 1 + 1 + 1) (bl Tryz.prog 95 y.2 (a8 ((cn e.ss)))))) (fun nx => nx + 1 + 1 + 1 + 1) hr (fun nx => by omega) (fun G nx hlt y n o ho => by
  have := hlt n o ho
  rw [dz (by omega), dz (by omega)]; exact ho) (fun G nx hF => qc t e hl h G nx hF)
theorem ue1 (t : af) (e : aw) (r : dd) (er : Int) (he0 : er ≠ 0) (hcall : c8 cr Tryz.prog 42 [b7 t, val r, lst [e]] (.tup [.list [] .nil, .v (.int .i64 er)])) :
  c8 cr Tryz.prog 21 [b7 t, val e, val r] (.tup [val (⟨0, 0, 0⟩ : PlaceD), .v (.int .i64 er)]) := by
 refine fw Tryz.func21 rfl (fun m => .tup (am (da _ _) (am .v bn))) fun G nx hF => ?_
 simp only [Tryz.ntmps21, List.length_cons, List.length_nil, Nat.reduceAdd, Nat.reduceSub]
 refine bf fun hlt => ?_
 dsimp only at hlt
 have hnx := hlt 0 _ hF
 refine yS fun _ K1 => ?_
 refine yR ?_
 try dsimp only [St.put]
 refine yB rfl rfl rfl ?_
 try dsimp only [St.put]
 refine yB rfl rfl rfl ?_
 try dsimp only [St.put]
 refine yB rfl rfl rfl ?_
 try dsimp only [St.put]
 refine ae rfl (bj rfl ?_)
 refine yA rfl rfl ?_
 refine yN ?_
 dsimp only [St.put]
 refine K1 _ ?_
 refine yS fun _ K2 => ?_
 refine yR ?_
 try dsimp only [St.put]
 refine ba rfl (bk rfl rfl rfl) ?_
 refine yE rfl rfl rfl ?_
 refine yE rfl rfl rfl ?_
 try dsimp only [St.put]
 refine ae rfl (cq rfl rfl rfl (by decide) (by decide) zR (by decide) ?_)
 try dsimp only [St.put]
 refine ae rfl (dq rfl rfl rfl (hcall) zG ?_)
 refine yM rfl rfl ?_
 refine yX rfl rfl rfl rfl ?_
 refine yX rfl rfl rfl rfl ?_
 refine yA rfl rfl ?_
 refine yA rfl rfl ?_
 refine yN ?_
 dsimp only [St.put]
 refine K2 _ ?_
 refine yS fun _ K3 => ?_
 refine yS fun _ K4 => ?_
 refine yR ?_
 refine yM rfl rfl ?_
 refine aa rfl (br (c := true) (cz rfl rfl rfl) (lf he0)) ?_
 refine yN ?_
 dsimp only [St.put]
 refine K4 _ ?_
 refine ak rfl (fun _ => ?_) (fun h => by cases h)
 refine yS fun _ K5 => ?_
 refine yR ?_
 refine aa rfl (dg rfl rfl) ?_
 refine yM rfl rfl ?_
 try dsimp only [St.put]
 refine ae rfl (ax rfl rfl rfl zG rfl rfl (by rfl) ?_)
 refine yA rfl rfl ?_
 refine yN ?_
 dsimp only [St.put]
 refine K5 _ ?_
 refine aj ?_
 refine dj rfl (dr rfl zG (by rfl) (by first | exact List.cons_ne_nil _ _ | (simp; done) | (simp [putAt]; done)) rfl) (ci (by constructor)) zN zS ?_ ?_
 ·exact zW
 exact zW
theorem upf (t : af) (e : aw) (r : dd) (hl : e.ss.length ≤ 20) (h : cb t e = 0) (hr : gt r = true) :
  c8 cr Tryz.prog 21 [b7 t, val e, val r] (.tup [val (jt t e r), .v (.int .i64 (jg t e r))]) := by
 refine fw Tryz.func21 rfl (fun m => .tup (am (da _ _) (am .v bn))) fun G nx hF => ?_
 simp only [Tryz.ntmps21, List.length_cons, List.length_nil, Nat.reduceAdd, Nat.reduceSub]
 refine bf fun hlt => ?_
 dsimp only at hlt
 have hnx := hlt 0 _ hF
 have hS := mu h
 refine yS fun _ K1 => ?_
 refine yR ?_
 try dsimp only [St.put]
 refine yB rfl rfl rfl ?_
 try dsimp only [St.put]
 refine yB rfl rfl rfl ?_
 try dsimp only [St.put]
 refine yB rfl rfl rfl ?_
 try dsimp only [St.put]
 refine ae rfl (bj rfl ?_)
 refine yA rfl rfl ?_
 refine yN ?_
 dsimp only [St.put]
 refine K1 _ ?_
 refine yS fun _ K2 => ?_
 refine yR ?_
 try dsimp only [St.put]
 refine ba rfl (bk rfl rfl rfl) ?_
 refine yE rfl rfl rfl ?_
 refine yE rfl rfl rfl ?_
 try dsimp only [St.put]
 refine ae rfl (cq rfl rfl rfl (by decide) (by decide) zR (by decide) ?_)
 try dsimp only [St.put]
 refine ae rfl (iy rfl rfl rfl (ubp t e r hl h hr _ _ zG) (fun y => ?_))
 refine yM rfl rfl ?_
 refine yX rfl rfl rfl rfl ?_
 refine yX rfl rfl rfl rfl ?_
 refine yA rfl rfl ?_
 refine yA rfl rfl ?_
 refine yN ?_
 dsimp only [St.put]
 refine K2 _ ?_
 refine yS fun _ K3 => ?_
 refine yS fun _ K4 => ?_
 refine yR ?_
 refine yM rfl rfl ?_
 refine aa rfl (br (c := false) (cz rfl rfl rfl) (by rfl)) ?_
 refine yN ?_
 dsimp only [St.put]
 refine K4 _ ?_
 refine ak rfl (fun h => by cases h) (fun _ => ?_)
 refine aq ?_
 refine K3 _ ?_
 refine yS fun _ K5 => ?_
 refine ml [(0, none), (1, none), (2, none), (3, none)] (fun _ => false) (fun i => [0, 1].contains i) 7 [true, true, true, true, false, false, false, false, false, false, false] (by kernel_rfl) (by kernel_rfl) ?_
 refine xM rfl rfl rfl rfl rfl ?_
 try dsimp only [St.put]
 refine ai rfl rfl rfl rfl (b8 (k := 0) rfl rfl rfl (by first | rfl | omega) rfl rfl) ?_
 try dsimp only [St.put]
 refine az rfl rfl rfl rfl (bq rfl rfl) ?_
 try dsimp only [St.put]
 refine az rfl rfl rfl rfl (bk rfl rfl (Enc.len _)) ?_
 refine b9 ?_
 refine bv [4, 8] (by kernel_rfl) (by simp) ?_
 refine bo ?_ ?_
 ·try dsimp only [St.put]
  refine bz rfl rfl rfl (fg rfl rfl rfl (s0 t e _ _ _ (cn e.ss) r hS.tx (s1 hS) hr _ _ (by dsimp only [St.put]; omega) (by dsimp only [St.put]; omega) zG) ?_)
  refine cy [(5, none), (6, none), (7, none)] (fun i => [5, 6, 7].contains i) 3 [true, true, true, true, true, true, true, true, false, false, false] (by kernel_rfl) ?_
  refine xM rfl rfl rfl rfl rfl ?_
  refine ai rfl rfl rfl rfl (d9 rfl rfl rfl) ?_
  refine ai rfl rfl rfl rfl (d9 rfl rfl rfl) ?_
  refine b9 ?_
  refine bv [8] (by kernel_rfl) (by simp) ?_
  refine bo ?_ ?_
  ·try dsimp only [St.put]
   refine bz rfl rfl rfl (bj rfl ?_)
   refine bv [9] (by kernel_rfl) (by simp) ?_
   refine bo ?_ ?_
   ·try dsimp only [St.put]
    refine bz rfl rfl rfl (ax rfl rfl rfl zG rfl rfl (by rfl) ?_)
    refine cy [(10, none)] (fun i => [10].contains i) 0 [true, true, true, true, true, true, true, true, true, true, true] (by kernel_rfl) ?_
    refine ai rfl rfl rfl rfl (eh rfl (by constructor)) ?_
    refine b9 ?_
    dsimp only [St.put]
    refine g6 (by kernel_rfl) ?_
    refine K5 _ ?_
    refine yS fun _ K6 => ?_
    refine yS fun _ K7 => ?_
    refine yR ?_
    refine yM rfl rfl ?_
    refine aa rfl (c9 rfl rfl) ?_
    refine yN ?_
    dsimp only [St.put]
    refine K7 _ ?_
    refine ak rfl (fun hc => ?_) (fun hc => ?_)
    ·have hf : iu t e.ss r = none := by simpa [kj] using hc
     have hE : jg t e r = 6 := by simp [jg, ki, h, hr, hf]
     have hV : jt t e r = ⟨0, 0, 0⟩ := by simp [jt, hE]
     refine yS fun _ K8 => ?_
     refine yR ?_
     refine aa rfl (dg rfl rfl) ?_
     try dsimp only [St.put]
     refine ae rfl (ax rfl rfl rfl zG rfl rfl (by rfl) ?_)
     refine yA rfl rfl ?_
     refine yN ?_
     dsimp only [St.put]
     refine K8 _ ?_
     refine aj ?_
     refine dj rfl (dr rfl zG (by rfl) (by first | exact List.cons_ne_nil _ _ | (simp; done) | (simp [putAt]; done)) rfl) (ci (by constructor)) zN zS ?_ ?_
     ·rw [hV]
      exact zW
     exact Wk.of_eq (vi hE.symm)
    have hf : (iu t e.ss r).isSome = true := by simpa [kj] using hc
    have hE : jg t e r = 0 := by simp [jg, ki, h, hr, hf]
    have hV : jt t e r = (ldO t (cn e.ss) r).getD ⟨0, 0, 0⟩ := by simp [jt, hE, kj]
    refine aq ?_
    refine K6 _ ?_
    refine yS fun _ K9 => ?_
    refine yR ?_
    try dsimp only [St.put]
    refine ba rfl (i6 rfl rfl zG trivial (by rfl)) ?_
    try dsimp only [St.put]
    refine ae rfl (ax rfl rfl rfl zG rfl rfl (by rfl) ?_)
    refine yA rfl rfl ?_
    refine yN ?_
    dsimp only [St.put]
    refine K9 _ ?_
    refine aj ?_
    refine dj rfl (dr rfl zG (by rfl) (by first | exact List.cons_ne_nil _ _ | (simp; done) | (simp [putAt]; done)) rfl) (ci (by constructor)) zN zS ?_ ?_
    ·rw [hV]
     exact zW
    exact Wk.of_eq (vi hE.symm)
   exact bu
  exact bu
 refine bo ?_ ?_
 ·try dsimp only [St.put]
  refine bz rfl rfl rfl (bj rfl ?_)
  refine bv [4] (by kernel_rfl) (by simp) ?_
  refine bo ?_ ?_
  ·try dsimp only [St.put]
   refine bz rfl rfl rfl (fg rfl rfl rfl (s0 t e _ _ _ (cn e.ss) r hS.tx (s1 hS) hr _ _ (by dsimp only [St.put]; omega) (by dsimp only [St.put]; omega) zG) ?_)
   refine cy [(5, none), (6, none), (7, none)] (fun i => [5, 6, 7].contains i) 2 [true, true, true, true, true, true, true, true, true, false, false] (by kernel_rfl) ?_
   refine xM rfl rfl rfl rfl rfl ?_
   refine ai rfl rfl rfl rfl (d9 rfl rfl rfl) ?_
   refine ai rfl rfl rfl rfl (d9 rfl rfl rfl) ?_
   refine b9 ?_
   refine bv [9] (by kernel_rfl) (by simp) ?_
   refine bo ?_ ?_
   ·try dsimp only [St.put]
    refine bz rfl rfl rfl (ax rfl rfl rfl zG rfl rfl (by rfl) ?_)
    refine cy [(10, none)] (fun i => [10].contains i) 0 [true, true, true, true, true, true, true, true, true, true, true] (by kernel_rfl) ?_
    refine ai rfl rfl rfl rfl (eh rfl (by constructor)) ?_
    refine b9 ?_
    dsimp only [St.put]
    refine g6 (by kernel_rfl) ?_
    refine K5 _ ?_
    refine yS fun _ K10 => ?_
    refine yS fun _ K11 => ?_
    refine yR ?_
    refine yM rfl rfl ?_
    refine aa rfl (c9 rfl rfl) ?_
    refine yN ?_
    dsimp only [St.put]
    refine K11 _ ?_
    refine ak rfl (fun hc => ?_) (fun hc => ?_)
    ·have hf : iu t e.ss r = none := by simpa [kj] using hc
     have hE : jg t e r = 6 := by simp [jg, ki, h, hr, hf]
     have hV : jt t e r = ⟨0, 0, 0⟩ := by simp [jt, hE]
     refine yS fun _ K12 => ?_
     refine yR ?_
     refine aa rfl (dg rfl rfl) ?_
     try dsimp only [St.put]
     refine ae rfl (ax rfl rfl rfl zG rfl rfl (by rfl) ?_)
     refine yA rfl rfl ?_
     refine yN ?_
     dsimp only [St.put]
     refine K12 _ ?_
     refine aj ?_
     refine dj rfl (dr rfl zG (by rfl) (by first | exact List.cons_ne_nil _ _ | (simp; done) | (simp [putAt]; done)) rfl) (ci (by constructor)) zN zS ?_ ?_
     ·rw [hV]
      exact zW
     exact Wk.of_eq (vi hE.symm)
    have hf : (iu t e.ss r).isSome = true := by simpa [kj] using hc
    have hE : jg t e r = 0 := by simp [jg, ki, h, hr, hf]
    have hV : jt t e r = (ldO t (cn e.ss) r).getD ⟨0, 0, 0⟩ := by simp [jt, hE, kj]
    refine aq ?_
    refine K10 _ ?_
    refine yS fun _ K13 => ?_
    refine yR ?_
    try dsimp only [St.put]
    refine ba rfl (i6 rfl rfl zG trivial (by rfl)) ?_
    try dsimp only [St.put]
    refine ae rfl (ax rfl rfl rfl zG rfl rfl (by rfl) ?_)
    refine yA rfl rfl ?_
    refine yN ?_
    dsimp only [St.put]
    refine K13 _ ?_
    refine aj ?_
    refine dj rfl (dr rfl zG (by rfl) (by first | exact List.cons_ne_nil _ _ | (simp; done) | (simp [putAt]; done)) rfl) (ci (by constructor)) zN zS ?_ ?_
    ·rw [hV]
     exact zW
    exact Wk.of_eq (vi hE.symm)
   exact bu
  exact bu
 exact bu
theorem upe (t : af) (e : aw) (r : dd) (hl : e.ss.length ≤ 20) :
  c8 cr Tryz.prog 21 [b7 t, val e, val r] (.tup [val (jt t e r), .v (.int .i64 (jg t e r))]) := by
 by_cases h : cb t e = 0
 ·cases hr : gt r with
  | true => exact upf t e r hl h hr
  | false =>
   have hE : jg t e r = 2 := by simp [jg, ki, h, hr]
   have hV : jt t e r = ⟨0, 0, 0⟩ := by simp [jt, hE]
   rw [hV, hE]
   exact ue1 t e r 2 (by decide) (ubq t e r hl h hr)
 have hE : jg t e r = cb t e := by simp [jg, h]
 have hV : jt t e r = ⟨0, 0, 0⟩ := by simp [jt, hE, h]
 rw [hV, hE]
 exact ue1 t e r _ h (xk t r [e] _ h (rq t e hl h))
end Go.Proofs.YtjjklfgpffgnfabGreatDoor
