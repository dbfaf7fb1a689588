/-
 Contracts of the program's functions of charts: what clashes, gaps, sound editions, plain ones.
-/
import Derived.Test.YtjjklfgpffgnfabGreatDoorCwLines
namespace Go.AB
open Go Go.RowKit
open Go.AB.Enc (cells)
open Go.PB (bh af PlaceD ar bp cj)
def kb (f : L2 → Option L2) (l : List L2) : List PlaceD := (l.filter fun p => (f p).isNone).map fun p => ⟨p.1, p.2, 0⟩
theorem udg {f : L2 → Option L2} {l : List LV} {x : LV} (h : f x.1 = none) : kb f ((l ++ [x]).map (·.1)) = kb f (l.map (·.1)) ++ [⟨x.1.1, x.1.2, 0⟩] := by
 unfold kb
 rw [List.map_append, List.filter_append, List.map_append]
 simp [h]
theorem udh {f : L2 → Option L2} {l : List LV} {x : LV} (h : f x.1 ≠ none) : kb f ((l ++ [x]).map (·.1)) = kb f (l.map (·.1)) := by
 unfold kb
 rw [List.map_append, List.filter_append, List.map_append]
 cases hf : f x.1 with
 | none => exact absurd hf h
 | some v => simp [hf]
theorem umz (f : L2 → Option L2) (l : List L2) : (kb f l).length ≤ l.length := by
 unfold kb
 rw [List.length_map]
 exact List.length_filter_le _ _
theorem udf {ss : List StretchD} : ∀ {l : List n2}, (∀ r ∈ l, decide (r.au = 0) = (av ss (r.ch, r.ln)).isNone) → vd l = kb (av ss) (l.map fun r => (r.ch, r.ln))
 | [], _ => rfl
 | r :: l, h => by
  have ih := udf (l := l) fun r hr => h r (List.mem_cons_of_mem _ hr)
  unfold vd kb at ih ⊢
  have h1 := h r (List.mem_cons_self ..)
  rw [List.map_cons, List.filter_cons, List.filter_cons, h1]
  cases (av ss (r.ch, r.ln)).isNone
  ·exact ih
  show _ :: _ = _ :: _
  exact congrArg _ ih
theorem uic {t : af} {ss : List StretchD} (he : ∀ s ∈ ss, SOk s) : ∀ r ∈ je t ss, decide (r.au = 0) = (av ss (r.ch, r.ln)).isNone := fun r hr => by
 obtain ⟨h1, _⟩ := w6 hr
 rw [h1]
 cases hv : av ss (r.ch, r.ln) with
 | none => rfl
 | some v =>
  have := l8 he hv
  simp only [Option.getD_some, Option.isNone_some, decide_eq_false_iff_not]; omega
theorem yg {t : af} {ss : List StretchD} (he : ∀ s ∈ ss, SOk s) : kb (av ss) (dn t) = vd (je t ss) := by
 rw [udf (uic he), w7]
theorem pf {t : af} (ht : bw t = true) : (dn t).length ≤ 60 := by
 rw [← w7 t [], List.length_map]
 exact uif ht []
theorem wu {t : af} {e : aw} (h : cb t e ≠ 0) : ct t e ≠ 0 ∧ cb t e = ct t e ∨ ct t e = 0 ∧ (ff e.ss).isSome = true ∧ cb t e = 8 := by
 unfold cb at h ⊢
 by_cases h0 : ct t e = 0
 ·right
  rw [decide_eq_true h0] at h ⊢
  cases hf : (ff e.ss).isSome with
  | false => rw [hf] at h; exact absurd rfl h
  | true => exact ⟨h0, rfl, rfl⟩
 left
 rw [decide_eq_false h0]
 exact ⟨h0, rfl⟩
end Go.AB
namespace Go.Proofs.YtjjklfgpffgnfabGreatDoor
set_option maxRecDepth 10000
open Go.RowKit Go.AB
open Go.AB.Enc (cells)
open Go.PB (bh af PlaceD ar bp cj)
theorem ue3 (t : af) (e : aw) (hl : e.ss.length ≤ 20) : c8 cr Tryz.prog 8 [b7 t, val e] (.tup [.v (.int .i64 (pt t e)), .v (.int .i64 (pr t e)), .v (.int .i64 (pq t e))]) := by
 refine fw Tryz.func8 rfl (fun m => .tup (am .v (am .v (am .v bn)))) fun G nx hF => ?_
 simp only [Tryz.ntmps8, List.length_cons, List.length_nil, Nat.reduceAdd, Nat.reduceSub]
 refine bf fun hlt => ?_
 dsimp only at hlt
 have hnx := hlt 0 _ hF
 refine yS fun _ K1 => ?_
 refine yR ?_
 try dsimp only [St.put]
 refine yB rfl rfl rfl ?_
 try dsimp only [St.put]
 refine yB rfl rfl rfl ?_
 refine yA rfl rfl ?_
 refine yA rfl rfl ?_
 refine yA rfl rfl ?_
 refine yN ?_
 dsimp only [St.put]
 refine K1 _ ?_
 refine yS fun _ K2 => ?_
 refine yS fun _ K3 => ?_
 refine yR ?_
 try dsimp only [St.put]
 refine ba rfl (bk rfl rfl rfl) ?_
 refine yE rfl rfl rfl ?_
 try dsimp only [St.put]
 refine ae rfl (dq rfl rfl rfl (ko t e hl) zG ?_)
 refine yA rfl rfl ?_
 refine yN ?_
 dsimp only [St.put]
 refine K3 _ ?_
 refine yS fun _ K4 => ?_
 refine yR ?_
 refine yM rfl rfl ?_
 refine aa rfl (cz rfl rfl rfl) ?_
 refine yN ?_
 dsimp only [St.put]
 refine K4 _ ?_
 refine ak rfl (fun hc => ?_) (fun hc => ?_)
 ·have h0 : ¬ ct t e = 0 := mx hc
  refine yS fun _ K5 => ?_
  refine yR ?_
  refine yM rfl rfl ?_
  refine yA rfl rfl ?_
  refine yA rfl rfl ?_
  refine yA rfl rfl ?_
  refine yN ?_
  dsimp only [St.put]
  refine K5 _ ?_
  refine aj ?_
  refine yn rfl (by constructor) (by constructor) (by constructor) zN zS ?_ ?_ ?_
  ·exact vi (by simp [pt, h0])
  ·exact vi (by simp [pr, h0])
  exact vi (by simp [pq, h0])
 have h0 : ct t e = 0 := kw hc
 obtain ⟨ht, hl12, he⟩ := k8 h0
 refine aq ?_
 refine K2 _ ?_
 refine yS fun _ K6 => ?_
 refine yR ?_
 try dsimp only [St.put]
 refine ba rfl (bk rfl rfl rfl) ?_
 refine yE rfl rfl rfl ?_
 try dsimp only [St.put]
 refine ae rfl (iy rfl rfl rfl (nd t e hl12 he _ _) (fun y => ?_))
 refine yM rfl rfl ?_
 refine yX rfl rfl rfl rfl ?_
 refine yX rfl rfl rfl rfl ?_
 refine yX rfl rfl rfl rfl ?_
 refine yX rfl rfl rfl rfl ?_
 refine yA rfl rfl ?_
 refine yA rfl rfl ?_
 refine yA rfl rfl ?_
 refine yA rfl rfl ?_
 refine yN ?_
 dsimp only [St.put]
 refine K6 _ ?_
 refine yS fun _ K7 => ?_
 refine yS fun _ K8 => ?_
 refine yR ?_
 refine yM rfl rfl ?_
 refine aa rfl (c9 rfl rfl) ?_
 refine yN ?_
 dsimp only [St.put]
 refine K8 _ ?_
 refine ak rfl (fun hc => ?_) (fun hc => ?_)
 ·have hf : ff e.ss = none := by simpa using hc
  refine yS fun _ K9 => ?_
  refine yR ?_
  refine yA rfl rfl ?_
  refine yA rfl rfl ?_
  refine yA rfl rfl ?_
  refine yN ?_
  dsimp only [St.put]
  refine K9 _ ?_
  refine aj ?_
  refine yn rfl (by constructor) (by constructor) (by constructor) zN zS ?_ ?_ ?_
  ·exact vi (by simp [pt, h0, (clN hf).1])
  ·exact vi (by simp [pr, h0, (clN hf).2])
  exact vi (by simp [pq, h0, hf])
 obtain ⟨p, hf⟩ : ∃ p, ff e.ss = some p := Option.isSome_iff_exists.1 (by simpa using hc)
 refine aq ?_
 refine K7 _ ?_
 refine yS fun _ K10 => ?_
 refine yR ?_
 refine yM rfl rfl ?_
 refine yM rfl rfl ?_
 refine yA rfl rfl ?_
 refine yA rfl rfl ?_
 refine yA rfl rfl ?_
 refine yN ?_
 dsimp only [St.put]
 refine K10 _ ?_
 refine aj ?_
 refine yn rfl (by constructor) (by constructor) (by constructor) zN zS ?_ ?_ ?_
 ·exact vi (by simp [pt, h0, (clV hf).1, hf, mc])
 ·exact vi (by simp [pr, h0, (clV hf).2, hf, v7])
 exact vi (by simp [pq, h0, hf])
theorem y9 (t : af) (e : aw) (hl : e.ss.length ≤ 20) : c8 cr Tryz.prog 10 [b7 t, val e] (.tup [lst (nv t e), .v (.int .i64 (ct t e))]) := by
 refine fw Tryz.func10 rfl (fun m => .tup (am (bd _ _) (am .v bn))) fun G nx hF => ?_
 simp only [Tryz.ntmps10, List.length_cons, List.length_nil, Nat.reduceAdd, Nat.reduceSub]
 refine bf fun hlt => ?_
 dsimp only at hlt
 have hnx := hlt 0 _ hF
 refine yS fun _ K1 => ?_
 refine yR ?_
 try dsimp only [St.put]
 refine yB rfl rfl rfl ?_
 try dsimp only [St.put]
 refine yB rfl rfl rfl ?_
 refine yA rfl rfl ?_
 refine yA rfl rfl ?_
 refine yN ?_
 dsimp only [St.put]
 refine K1 _ ?_
 refine yS fun _ K2 => ?_
 refine yS fun _ K3 => ?_
 refine yR ?_
 try dsimp only [St.put]
 refine ba rfl (bk rfl rfl rfl) ?_
 refine yE rfl rfl rfl ?_
 try dsimp only [St.put]
 refine ae rfl (dq rfl rfl rfl (ko t e hl) zG ?_)
 refine yA rfl rfl ?_
 refine yN ?_
 dsimp only [St.put]
 refine K3 _ ?_
 refine yS fun _ K4 => ?_
 refine yR ?_
 refine yM rfl rfl ?_
 refine aa rfl (cz rfl rfl rfl) ?_
 refine yN ?_
 dsimp only [St.put]
 refine K4 _ ?_
 refine ak rfl (fun hc => ?_) (fun hc => ?_)
 ·have h0 : ¬ ct t e = 0 := mx hc
  refine yS fun _ K5 => ?_
  refine yR ?_
  refine yM rfl rfl ?_
  refine yA rfl rfl ?_
  refine yA rfl rfl ?_
  refine yN ?_
  dsimp only [St.put]
  refine K5 _ ?_
  refine aj ?_
  refine dj rfl (ci (by constructor)) (ci (by constructor)) zN zS ?_ ?_
  ·rw [show nv t e = [] by simp [nv, h0]]
   exact zW
  exact Wk.refl _
 have h0 : ct t e = 0 := kw hc
 obtain ⟨ht, hl12, he⟩ := k8 h0
 refine aq ?_
 refine K2 _ ?_
 refine yS fun _ K6 => ?_
 refine yR ?_
 try dsimp only [St.put]
 refine ba rfl (bk rfl rfl rfl) ?_
 refine yE rfl rfl rfl ?_
 try dsimp only [St.put]
 refine ae rfl (iy rfl rfl rfl (nd t e hl12 he _ _) (fun y => ?_))
 refine yM rfl rfl ?_
 refine yX rfl rfl rfl rfl ?_
 refine yX rfl rfl rfl rfl ?_
 refine yX rfl rfl rfl rfl ?_
 refine yX rfl rfl rfl rfl ?_
 try dsimp only [St.put]
 refine ae rfl (bj rfl ?_)
 try dsimp only [St.put]
 refine ae rfl (ax rfl rfl rfl zG rfl rfl (by rfl) ?_)
 refine yA rfl rfl ?_
 refine yA rfl rfl ?_
 refine yA rfl rfl ?_
 refine yN ?_
 dsimp only [St.put]
 refine K6 _ ?_
 refine cw (i := 7) rfl zG (by first | exact List.cons_ne_nil _ _ | (simp; done) | (simp [putAt]; done)) ?_
 dsimp only
 refine yS fun _ K7 => ?_
 refine yR ?_
 try dsimp only [St.put]
 refine ae rfl (bj rfl ?_)
 refine yN ?_
 dsimp only [St.put]
 refine K7 _ ?_
 refine zi (nx + 1 + 1 + 1) 0 _ _ 49 3 zG rfl (by decide) ?_
 dsimp only [List.set_cons_zero, List.set_cons_succ]
 refine yS fun _ K8 => ?_
 refine yS fun _ K9 => ?_
 refine yR ?_
 refine yL rfl rfl rfl ?_
 try dsimp only [St.put]
 refine ae rfl (fg rfl rfl rfl (x6 t e _ _ _ _ (by dsimp only [St.put]; omega) (by dsimp only [St.put]; omega)) ?_)
 refine yN ?_
 dsimp only [St.put]
 refine K9 _ ?_
 refine bg ?_
 refine di 31 ?_
 simp only [cx, bi, Nat.reduceAdd, List.getD_cons_zero, List.getD_cons_succ, List.getD_nil, dc, Nat.reduceBEq, cond_true, cond_false]
 refine dv (ah (ah (ah (ah G nx (bl Tryz.prog 95 y.1 (a8 ((av e.ss))))) (nx + 1) (bl Tryz.prog 95 y.2 (a8 ((cn e.ss))))) (nx + 1 + 1 + 1) (.box 0 [.list [] (.tip (nx + 1 + 1 + 1 + 1))])) (nx + 1 + 1 + 1 + 1) (.tip 0 49 3)) zX ?_
 dsimp only
 refine zf (clL) [31, 32] (fun zs => (ah (ah (ah (ah G nx (bl Tryz.prog 95 y.1 (a8 ((av e.ss))))) (nx + 1) (bl Tryz.prog 95 y.2 (a8 ((cn e.ss))))) (nx + 1 + 1 + 1) (.box ((kb (av e.ss) (zs.map (·.1)))).length [.list (((kb (av e.ss) (zs.map (·.1)))).map cells) (.tip (nx + 1 + 1 + 1 + 1))])) (nx + 1 + 1 + 1 + 1) (.tip ((kb (av e.ss) (zs.map (·.1)))).length 49 3))) (fun _ _ (_ : Unit) => False) (fun _ => fun _ => none) (fun x => [(32, .v x.2), (31, .agg [.v (.int .i64 x.1.1), .v (.int .i64 x.1.2)])]) (x7 t e nx (nx + 1)) rfl rfl (fun _ => rfl) (fun xs hX => hX.cl) ?_ ?_ ?_ (fun _ _ _ h => h.elim) (fun xs hX lr pre x hx hlen hpre => ?_) (fun _ _ _ _ _ _ h => h.elim) (fun xs hX => ?_)
 ·intro pre x
  rfl
 ·exact zX
 ·intro zs
  exact (by (repeat' (refine f9 ?_ (by (try dsimp only); omega) ?_)); all_goals (first | exact gw zS | (repeat' (first | exact trivial | refine ⟨?_, ?_⟩ | exact .v | exact .any | refine .elem ?_ | exact bd _ _ | exact ed _ _ | exact da _ _ | exact eg _ (by (try dsimp only); omega) | exact .box (by (try dsimp only); omega) | exact dp | exact bn | exact gd (fo _ _) | refine ef ?_ ?_ | exact .arr (by (try dsimp only); omega) | exact .own (by (try dsimp only); omega) | exact .map (by (try dsimp only); omega) | exact du _ | refine am ?_ ?_ | exact bd _ _))))
 ·have hpl : (kb (av e.ss) (pre.map (·.1))).length ≤ 60 := by
   have h1 := umz (av e.ss) (pre.map (·.1))
   have h2 := pf ht
   rw [← hX.fst, List.length_map] at h2
   rw [List.length_map] at h1
   omega
  refine yR ?_
  try dsimp only [St.put]
  refine ae rfl (bj rfl ?_)
  try dsimp only [St.put]
  refine ae rfl (ax rfl rfl rfl zG rfl rfl (by rfl) ?_)
  refine yN ?_
  dsimp only [St.put]
  show AW _ _ _ _ _
  refine cw (i := 12) rfl zG (by first | exact List.cons_ne_nil _ _ | (simp; done) | (simp [putAt]; done)) ?_
  dsimp only
  refine bg ?_
  refine yS fun _ K10 => ?_
  obtain ⟨v1, hv1⟩ : ∃ v : L2, (a8 (av e.ss) x.1).getD (ia (.agg #[.int .i64 0, .int .i64 0])) = .agg [.v (.int .i64 v.1), .v (.int .i64 v.2)] := oh _ _
  obtain ⟨b1, hb1⟩ : ∃ b, (a8 (av e.ss) x.1).isSome = b := ⟨_, rfl⟩
  refine gh [(0, none), (1, none), (2, none), (3, none), (4, none), (5, none), (6, none), (7, none), (8, none), (9, none), (10, none), (11, none)] (fun i => [10].contains i) (fun i => [9, 10].contains i) (fun i => [1, 2, 6, 7, 8, 11].contains i) [nx] (by kernel_rfl) (by kernel_rfl) ?_
  try dsimp only [St.put]
  refine az rfl rfl rfl rfl (bq rfl rfl) ?_
  refine ai rfl rfl rfl rfl (ie rfl rfl) ?_
  refine ai rfl rfl rfl rfl (cd rfl rfl rfl) ?_
  try dsimp only [St.put]
  refine az rfl rfl rfl rfl (bq rfl rfl) ?_
  try dsimp only [St.put]
  refine az rfl rfl rfl rfl (bk rfl rfl rfl) ?_
  try dsimp only [St.put]
  refine az rfl rfl rfl rfl (n3 x.1 rfl rfl zG (by simp) rfl hv1 hb1) ?_
  refine xM rfl rfl rfl rfl rfl ?_
  refine ai rfl rfl rfl rfl (d9 rfl rfl rfl) ?_
  refine ai rfl rfl rfl rfl (d9 rfl rfl rfl) ?_
  refine il ?_
  try dsimp only [St.put]
  refine jp rfl rfl rfl (bj rfl ⟨zD, ?_⟩)
  try dsimp only [St.put]
  refine gl rfl rfl rfl rfl (ax rfl rfl rfl zG rfl rfl (by rfl) ?_)
  refine jl rfl rfl rfl rfl (eh rfl (by constructor)) ?_
  refine ij ?_
  dsimp only [St.put]
  refine K10 _ ?_
  refine yS fun _ K11 => ?_
  refine yR ?_
  refine yM rfl rfl ?_
  refine aa rfl (c9 rfl rfl) ?_
  refine yN ?_
  dsimp only [St.put]
  refine K11 _ ?_
  refine ak rfl (fun hc => ?_) (fun hc => ?_)
  ·have hno : av e.ss x.1 = none := by
    have : b1 = false := by simpa using hc
    rw [this] at hb1
    exact capp_none.1 (by simpa using hb1)
   refine yR ?_
   try dsimp only [St.put]
   refine ba rfl (i7 rfl rfl zG trivial (by first | rfl | assumption)) ?_
   try dsimp only [St.put]
   refine aa rfl (em (k := 0) rfl rfl rfl (by first | exact rfl | omega) (by first | decide | omega) rfl) ?_
   refine yL rfl rfl rfl ?_
   try dsimp only [St.put]
   refine aa rfl (em (k := 1) rfl rfl rfl (by first | exact rfl | omega) (by first | decide | omega) rfl) ?_
   refine yL rfl rfl rfl ?_
   refine aa rfl (dg rfl rfl) ?_
   try dsimp only [St.put]
   refine ae rfl (cq rfl rfl rfl (by decide) (by decide) zR (by decide) ?_)
   try dsimp only [St.put]
   refine ae rfl (rf ([(⟨x.1.1, x.1.2, 0⟩ : PlaceD)]) rfl rfl zG (by first | rfl | simp) rfl rfl zA ?_ zA)
   try dsimp only [St.put]
   refine ae rfl (ax rfl rfl rfl zG rfl rfl (by rfl) ?_)
   refine yN ?_
   dsimp only [St.put]
   unfold m5 mr
   dsimp only
   first
   | (rw [udg hno]
      simp only [List.length_append]
      exact zX)
   | (rw [udh hys]
      exact zX)
  have hys : av e.ss x.1 ≠ none := fun h0 => by
   have : b1 = true := by simpa using hc
   rw [this, capp_none.2 h0] at hb1
   cases hb1
  refine aq ?_
  unfold m5 mr
  dsimp only
  first
  | (rw [udg hno]
     simp only [List.length_append]
     exact zX)
  | (rw [udh hys]
     exact zX)
 dsimp only
 rw [hX.fst]
 refine K8 _ ?_
 refine yS fun _ K12 => ?_
 refine yR ?_
 try dsimp only [St.put]
 refine ba rfl (i7 rfl rfl zG trivial (by first | rfl | assumption)) ?_
 refine yA rfl rfl ?_
 refine yA rfl rfl ?_
 refine yN ?_
 dsimp only [St.put]
 refine K12 _ ?_
 refine aj ?_
 refine dj rfl (ci (by constructor)) (ci (by constructor)) zN zS ?_ ?_
 ·rw [show nv t e = kb (av e.ss) (dn t) by rw [yg he]; simp [nv, h0]]
  exact zW
 exact Wk.of_eq (vi h0.symm)
end Go.Proofs.YtjjklfgpffgnfabGreatDoor
