/-
 Contracts of the program's functions of charts: what clashes, gaps, sound editions, plain ones.
-/
import Derived.Test.YtjjklfgpffgnfaaGreatDoorCwLines
namespace Go.AB
open Go Go.RowKit
open Go.AB.Enc (cells)
open Go.PB (bv ai PlaceD cy c6 cz)
def j5 (f : L2 → Option L2) (l : List L2) : List PlaceD := (l.filter fun p => (f p).isNone).map fun p => ⟨p.1, p.2, 0⟩
theorem ubi {f : L2 → Option L2} {l : List LV} {x : LV} (h : f x.1 = none) : j5 f ((l ++ [x]).map (·.1)) = j5 f (l.map (·.1)) ++ [⟨x.1.1, x.1.2, 0⟩] := by
 unfold j5
 rw [List.map_append, List.filter_append, List.map_append]
 simp [h]
theorem ubj {f : L2 → Option L2} {l : List LV} {x : LV} (h : f x.1 ≠ none) : j5 f ((l ++ [x]).map (·.1)) = j5 f (l.map (·.1)) := by
 unfold j5
 rw [List.map_append, List.filter_append, List.map_append]
 cases hf : f x.1 with
 | none => exact absurd hf h
 | some v => simp [hf]
theorem uiz (f : L2 → Option L2) (l : List L2) : (j5 f l).length ≤ l.length := by
 unfold j5
 rw [List.length_map]
 exact List.length_filter_le _ _
theorem ubh {ss : List StretchD} : ∀ {l : List nr}, (∀ r ∈ l, decide (r.au = 0) = (ax ss (r.ch, r.ln)).isNone) → ti l = j5 (ax ss) (l.map fun r => (r.ch, r.ln))
 | [], _ => rfl
 | r :: l, h => by
  have ih := ubh (l := l) fun r hr => h r (List.mem_cons_of_mem _ hr)
  unfold ti j5 at ih ⊢
  have h1 := h r (List.mem_cons_self ..)
  rw [List.map_cons, List.filter_cons, List.filter_cons, h1]
  cases (ax ss (r.ch, r.ln)).isNone
  ·exact ih
  show _ :: _ = _ :: _
  exact congrArg _ ih
theorem uft {t : ai} {ss : List StretchD} (he : ∀ s ∈ ss, SOk s) : ∀ r ∈ ja t ss, decide (r.au = 0) = (ax ss (r.ch, r.ln)).isNone := fun r hr => by
 obtain ⟨h1, _⟩ := u3 hr
 rw [h1]
 cases hv : ax ss (r.ch, r.ln) with
 | none => rfl
 | some v =>
  have := l3 he hv
  simp only [Option.getD_some, Option.isNone_some, decide_eq_false_iff_not]; omega
theorem uiy {t : ai} {ss : List StretchD} (he : ∀ s ∈ ss, SOk s) : j5 (ax ss) (d9 t) = ti (ja t ss) := by
 rw [ubh (uft he), u4]
theorem ov {t : ai} (ht : ct t = true) : (d9 t).length ≤ 60 := by
 rw [← u4 t [], List.length_map]
 exact ufw ht []
theorem ur {t : ai} {e : av} (h : bz t e ≠ 0) : cw t e ≠ 0 ∧ bz t e = cw t e ∨ cw t e = 0 ∧ (ef e.ss).isSome = true ∧ bz t e = 8 := by
 unfold bz at h ⊢
 by_cases h0 : cw t e = 0
 ·right
  rw [decide_eq_true h0] at h ⊢
  cases hf : (ef e.ss).isSome with
  | false => rw [hf] at h; exact absurd rfl h
  | true => exact ⟨h0, rfl, rfl⟩
 left
 rw [decide_eq_false h0]
 exact ⟨h0, rfl⟩
end Go.AB
namespace Go.Proofs.YtjjklfgpffgnfaaGreatDoor
set_option maxRecDepth 10000
open Go.RowKit Go.AB
open Go.AB.Enc (cells)
open Go.PB (bv ai PlaceD cy c6 cz)
theorem t7 (t : ai) (e : av) (hl : e.ss.length ≤ 20) : da cv Tryz.prog 34 [b8 t, val e] (.tup [.v (.int .i64 (mh t e)), .v (.int .i64 (mg t e)), .v (.int .i64 (jr t e))]) := by
 refine fy Tryz.func34 rfl (fun m => .tup (ar .v (ar .v (ar .v bl)))) fun G nx hF => ?_
 simp only [Tryz.ntmps34, List.length_cons, List.length_nil, Nat.reduceAdd, Nat.reduceSub]
 refine bi fun hlt => ?_
 dsimp only at hlt
 have hnx := hlt 0 _ hF
 refine yS fun _ K1 => ?_
 refine yR ?_
 try dsimp only [St.put]
 refine yB rfl rfl rfl ?_
 try dsimp only [St.put]
 refine yB rfl rfl rfl ?_
 refine yA rfl rfl ?_
 refine yA rfl rfl ?_
 refine yA rfl rfl ?_
 refine yN ?_
 dsimp only [St.put]
 refine K1 _ ?_
 refine yS fun _ K2 => ?_
 refine yS fun _ K3 => ?_
 refine yR ?_
 try dsimp only [St.put]
 refine af rfl (aq rfl rfl rfl) ?_
 refine yE rfl rfl rfl ?_
 try dsimp only [St.put]
 refine ae rfl (eb rfl rfl rfl (kr t e hl) zG ?_)
 refine yA rfl rfl ?_
 refine yN ?_
 dsimp only [St.put]
 refine K3 _ ?_
 refine yS fun _ K4 => ?_
 refine yR ?_
 refine yM rfl rfl ?_
 refine aa rfl (dt rfl rfl rfl) ?_
 refine yN ?_
 dsimp only [St.put]
 refine K4 _ ?_
 refine al rfl (fun hc => ?_) (fun hc => ?_)
 ·have h0 : ¬ cw t e = 0 := ny hc
  refine yS fun _ K5 => ?_
  refine yR ?_
  refine yM rfl rfl ?_
  refine yA rfl rfl ?_
  refine yA rfl rfl ?_
  refine yA rfl rfl ?_
  refine yN ?_
  dsimp only [St.put]
  refine K5 _ ?_
  refine am ?_
  refine w5 rfl (by constructor) (by constructor) (by constructor) zN zS ?_ ?_ ?_
  ·exact vi (by simp [mh, h0])
  ·exact vi (by simp [mg, h0])
  exact vi (by simp [jr, h0])
 have h0 : cw t e = 0 := li hc
 obtain ⟨ht, hl12, he⟩ := kq h0
 refine aw ?_
 refine K2 _ ?_
 refine yS fun _ K6 => ?_
 refine yR ?_
 try dsimp only [St.put]
 refine af rfl (aq rfl rfl rfl) ?_
 refine yE rfl rfl rfl ?_
 try dsimp only [St.put]
 refine ae rfl (i0 rfl rfl rfl (m6 t e hl12 he _ _) (fun y => ?_))
 refine yM rfl rfl ?_
 refine yX rfl rfl rfl rfl ?_
 refine yX rfl rfl rfl rfl ?_
 refine yX rfl rfl rfl rfl ?_
 refine yX rfl rfl rfl rfl ?_
 refine yA rfl rfl ?_
 refine yA rfl rfl ?_
 refine yA rfl rfl ?_
 refine yA rfl rfl ?_
 refine yN ?_
 dsimp only [St.put]
 refine K6 _ ?_
 refine yS fun _ K7 => ?_
 refine yS fun _ K8 => ?_
 refine yR ?_
 refine yM rfl rfl ?_
 refine aa rfl (dn rfl rfl) ?_
 refine yN ?_
 dsimp only [St.put]
 refine K8 _ ?_
 refine al rfl (fun hc => ?_) (fun hc => ?_)
 ·have hf : ef e.ss = none := by simpa using hc
  refine yS fun _ K9 => ?_
  refine yR ?_
  refine yA rfl rfl ?_
  refine yA rfl rfl ?_
  refine yA rfl rfl ?_
  refine yN ?_
  dsimp only [St.put]
  refine K9 _ ?_
  refine am ?_
  refine w5 rfl (by constructor) (by constructor) (by constructor) zN zS ?_ ?_ ?_
  ·exact vi (by simp [mh, h0, (clN hf).1])
  ·exact vi (by simp [mg, h0, (clN hf).2])
  exact vi (by simp [jr, h0, hf])
 obtain ⟨p, hf⟩ : ∃ p, ef e.ss = some p := Option.isSome_iff_exists.1 (by simpa using hc)
 refine aw ?_
 refine K7 _ ?_
 refine yS fun _ K10 => ?_
 refine yR ?_
 refine yM rfl rfl ?_
 refine yM rfl rfl ?_
 refine yA rfl rfl ?_
 refine yA rfl rfl ?_
 refine yA rfl rfl ?_
 refine yN ?_
 dsimp only [St.put]
 refine K10 _ ?_
 refine am ?_
 refine w5 rfl (by constructor) (by constructor) (by constructor) zN zS ?_ ?_ ?_
 ·exact vi (by simp [mh, h0, (clV hf).1, hf, ma])
 ·exact vi (by simp [mg, h0, (clV hf).2, hf, uh])
 exact vi (by simp [jr, h0, hf])
theorem ulj (t : ai) (e : av) (hl : e.ss.length ≤ 20) : da cv Tryz.prog 19 [b8 t, val e] (.tup [lst (p8 t e), .v (.int .i64 (cw t e))]) := by
 refine fy Tryz.func19 rfl (fun m => .tup (ar (bh _ _) (ar .v bl))) fun G nx hF => ?_
 simp only [Tryz.ntmps19, List.length_cons, List.length_nil, Nat.reduceAdd, Nat.reduceSub]
 refine bi fun hlt => ?_
 dsimp only at hlt
 have hnx := hlt 0 _ hF
 refine yS fun _ K1 => ?_
 refine yR ?_
 try dsimp only [St.put]
 refine yB rfl rfl rfl ?_
 try dsimp only [St.put]
 refine yB rfl rfl rfl ?_
 refine yA rfl rfl ?_
 refine yA rfl rfl ?_
 refine yN ?_
 dsimp only [St.put]
 refine K1 _ ?_
 refine yS fun _ K2 => ?_
 refine yS fun _ K3 => ?_
 refine yR ?_
 try dsimp only [St.put]
 refine af rfl (aq rfl rfl rfl) ?_
 refine yE rfl rfl rfl ?_
 try dsimp only [St.put]
 refine ae rfl (eb rfl rfl rfl (kr t e hl) zG ?_)
 refine yA rfl rfl ?_
 refine yN ?_
 dsimp only [St.put]
 refine K3 _ ?_
 refine yS fun _ K4 => ?_
 refine yR ?_
 refine yM rfl rfl ?_
 refine aa rfl (dt rfl rfl rfl) ?_
 refine yN ?_
 dsimp only [St.put]
 refine K4 _ ?_
 refine al rfl (fun hc => ?_) (fun hc => ?_)
 ·have h0 : ¬ cw t e = 0 := ny hc
  refine yS fun _ K5 => ?_
  refine yR ?_
  refine yM rfl rfl ?_
  refine yA rfl rfl ?_
  refine yA rfl rfl ?_
  refine yN ?_
  dsimp only [St.put]
  refine K5 _ ?_
  refine am ?_
  refine dv rfl (cj (by constructor)) (cj (by constructor)) zN zS ?_ ?_
  ·rw [show p8 t e = [] by simp [p8, h0]]
   exact zW
  exact Wk.refl _
 have h0 : cw t e = 0 := li hc
 obtain ⟨ht, hl12, he⟩ := kq h0
 refine aw ?_
 refine K2 _ ?_
 refine yS fun _ K6 => ?_
 refine yR ?_
 try dsimp only [St.put]
 refine af rfl (aq rfl rfl rfl) ?_
 refine yE rfl rfl rfl ?_
 try dsimp only [St.put]
 refine ae rfl (i0 rfl rfl rfl (m6 t e hl12 he _ _) (fun y => ?_))
 refine yM rfl rfl ?_
 refine yX rfl rfl rfl rfl ?_
 refine yX rfl rfl rfl rfl ?_
 refine yX rfl rfl rfl rfl ?_
 refine yX rfl rfl rfl rfl ?_
 try dsimp only [St.put]
 refine ae rfl (bp rfl ?_)
 try dsimp only [St.put]
 refine ae rfl (ay rfl rfl rfl zG rfl rfl (by rfl) ?_)
 refine yA rfl rfl ?_
 refine yA rfl rfl ?_
 refine yA rfl rfl ?_
 refine yN ?_
 dsimp only [St.put]
 refine K6 _ ?_
 refine dg (i := 7) rfl zG (by first | exact List.cons_ne_nil _ _ | (simp; done) | (simp [putAt]; done)) ?_
 dsimp only
 refine yS fun _ K7 => ?_
 refine yR ?_
 try dsimp only [St.put]
 refine ae rfl (bp rfl ?_)
 refine yN ?_
 dsimp only [St.put]
 refine K7 _ ?_
 refine ul8 (nx + 1 + 1 + 1) 0 _ _ 32 3 zG rfl (by decide) ?_
 dsimp only [List.set_cons_zero, List.set_cons_succ]
 refine yS fun _ K8 => ?_
 refine yS fun _ K9 => ?_
 refine yR ?_
 refine yL rfl rfl rfl ?_
 try dsimp only [St.put]
 refine ae rfl (f8 rfl rfl rfl (vu t e _ _ _ _ (by dsimp only [St.put]; omega) (by dsimp only [St.put]; omega)) ?_)
 refine yN ?_
 dsimp only [St.put]
 refine K9 _ ?_
 refine bn ?_
 refine eg 31 ?_
 simp only [dj, bq, Nat.reduceAdd, List.getD_cons_zero, List.getD_cons_succ, List.getD_nil, dw, Nat.reduceBEq, cond_true, cond_false]
 refine fg (ak (ak (ak (ak G nx (bo Tryz.prog 115 y.1 (az ((ax e.ss))))) (nx + 1) (bo Tryz.prog 115 y.2 (az ((cn e.ss))))) (nx + 1 + 1 + 1) (.box 0 [.list [] (.tip (nx + 1 + 1 + 1 + 1))])) (nx + 1 + 1 + 1 + 1) (.tip 0 32 3)) zX ?_
 dsimp only
 refine xn (clL) [31, 32] (fun zs => (ak (ak (ak (ak G nx (bo Tryz.prog 115 y.1 (az ((ax e.ss))))) (nx + 1) (bo Tryz.prog 115 y.2 (az ((cn e.ss))))) (nx + 1 + 1 + 1) (.box ((j5 (ax e.ss) (zs.map (·.1)))).length [.list (((j5 (ax e.ss) (zs.map (·.1)))).map cells) (.tip (nx + 1 + 1 + 1 + 1))])) (nx + 1 + 1 + 1 + 1) (.tip ((j5 (ax e.ss) (zs.map (·.1)))).length 32 3))) (fun _ _ (_ : Unit) => False) (fun _ => fun _ => none) (fun x => [(32, .v x.2), (31, .agg [.v (.int .i64 x.1.1), .v (.int .i64 x.1.2)])]) (vv t e nx (nx + 1)) rfl rfl (fun _ => rfl) (fun xs hX => hX.cl) ?_ ?_ ?_ (fun _ _ _ h => h.elim) (fun xs hX lr pre x hx hlen hpre => ?_) (fun _ _ _ _ _ _ h => h.elim) (fun xs hX => ?_)
 ·intro pre x
  rfl
 ·exact zX
 ·intro zs
  exact (by (repeat' (refine gt ?_ (by (try dsimp only); omega) ?_)); all_goals (first | exact ie zS | (repeat' (first | exact trivial | refine ⟨?_, ?_⟩ | exact .v | exact .any | refine .elem ?_ | exact bh _ _ | exact e9 _ _ | exact dq _ _ | exact ff _ (by (try dsimp only); omega) | exact .box (by (try dsimp only); omega) | exact ed | exact bl | exact gg (f9 _ _) | refine fa ?_ ?_ | exact .arr (by (try dsimp only); omega) | exact .own (by (try dsimp only); omega) | exact .map (by (try dsimp only); omega) | exact ez _ | refine ar ?_ ?_ | exact bh _ _))))
 ·have hpl : (j5 (ax e.ss) (pre.map (·.1))).length ≤ 60 := by
   have h1 := uiz (ax e.ss) (pre.map (·.1))
   have h2 := ov ht
   rw [← hX.fst, List.length_map] at h2
   rw [List.length_map] at h1
   omega
  refine yR ?_
  try dsimp only [St.put]
  refine ae rfl (bp rfl ?_)
  try dsimp only [St.put]
  refine ae rfl (ay rfl rfl rfl zG rfl rfl (by rfl) ?_)
  refine yN ?_
  dsimp only [St.put]
  show AW _ _ _ _ _
  refine dg (i := 12) rfl zG (by first | exact List.cons_ne_nil _ _ | (simp; done) | (simp [putAt]; done)) ?_
  dsimp only
  refine bn ?_
  refine yS fun _ K10 => ?_
  obtain ⟨v1, hv1⟩ : ∃ v : L2, (az (ax e.ss) x.1).getD (iw (.agg #[.int .i64 0, .int .i64 0])) = .agg [.v (.int .i64 v.1), .v (.int .i64 v.2)] := n8 _ _
  obtain ⟨b1, hb1⟩ : ∃ b, (az (ax e.ss) x.1).isSome = b := ⟨_, rfl⟩
  refine gj [(0, none), (1, none), (2, none), (3, none), (4, none), (5, none), (6, none), (7, none), (8, none), (9, none), (10, none), (11, none)] (fun i => [10].contains i) (fun i => [9, 10].contains i) (fun i => [1, 2, 6, 7, 8, 11].contains i) [nx] (by kernel_rfl) (by kernel_rfl) ?_
  try dsimp only [St.put]
  refine aj rfl rfl rfl rfl (a7 rfl rfl) ?_
  refine ah rfl rfl rfl rfl (iq rfl rfl) ?_
  refine ah rfl rfl rfl rfl (b9 rfl rfl rfl) ?_
  try dsimp only [St.put]
  refine aj rfl rfl rfl rfl (a7 rfl rfl) ?_
  try dsimp only [St.put]
  refine aj rfl rfl rfl rfl (aq rfl rfl rfl) ?_
  try dsimp only [St.put]
  refine aj rfl rfl rfl rfl (nt x.1 rfl rfl zG (by simp) rfl hv1 hb1) ?_
  refine xM rfl rfl rfl rfl rfl ?_
  refine ah rfl rfl rfl rfl (c7 rfl rfl rfl) ?_
  refine ah rfl rfl rfl rfl (c7 rfl rfl rfl) ?_
  refine il ?_
  try dsimp only [St.put]
  refine jl rfl rfl rfl (bp rfl ⟨zD, ?_⟩)
  try dsimp only [St.put]
  refine gn rfl rfl rfl rfl (ay rfl rfl rfl zG rfl rfl (by rfl) ?_)
  refine jk rfl rfl rfl rfl (cg rfl (by constructor)) ?_
  refine ij ?_
  dsimp only [St.put]
  refine K10 _ ?_
  refine yS fun _ K11 => ?_
  refine yR ?_
  refine yM rfl rfl ?_
  refine aa rfl (dn rfl rfl) ?_
  refine yN ?_
  dsimp only [St.put]
  refine K11 _ ?_
  refine al rfl (fun hc => ?_) (fun hc => ?_)
  ·have hno : ax e.ss x.1 = none := by
    have : b1 = false := by simpa using hc
    rw [this] at hb1
    exact capp_none.1 (by simpa using hb1)
   refine yR ?_
   try dsimp only [St.put]
   refine af rfl (dd rfl rfl zG trivial (by first | rfl | assumption)) ?_
   try dsimp only [St.put]
   refine aa rfl (fb (k := 0) rfl rfl rfl (by first | exact rfl | omega) (by first | decide | omega) rfl) ?_
   refine yL rfl rfl rfl ?_
   try dsimp only [St.put]
   refine aa rfl (fb (k := 1) rfl rfl rfl (by first | exact rfl | omega) (by first | decide | omega) rfl) ?_
   refine yL rfl rfl rfl ?_
   refine aa rfl (du rfl rfl) ?_
   try dsimp only [St.put]
   refine ae rfl (c9 rfl rfl rfl (by decide) (by decide) zR (by decide) ?_)
   try dsimp only [St.put]
   refine ae rfl (ub8 ([(⟨x.1.1, x.1.2, 0⟩ : PlaceD)]) rfl rfl zG (by first | rfl | simp) rfl rfl zA ?_ zA)
   try dsimp only [St.put]
   refine ae rfl (ay rfl rfl rfl zG rfl rfl (by rfl) ?_)
   refine yN ?_
   dsimp only [St.put]
   unfold my mj
   dsimp only
   first
   | (rw [ubi hno]
      simp only [List.length_append]
      exact zX)
   | (rw [ubj hys]
      exact zX)
  have hys : ax e.ss x.1 ≠ none := fun h0 => by
   have : b1 = true := by simpa using hc
   rw [this, capp_none.2 h0] at hb1
   cases hb1
  refine aw ?_
  unfold my mj
  dsimp only
  first
  | (rw [ubi hno]
     simp only [List.length_append]
     exact zX)
  | (rw [ubj hys]
     exact zX)
 dsimp only
 rw [hX.fst]
 refine K8 _ ?_
 refine yS fun _ K12 => ?_
 refine yR ?_
 try dsimp only [St.put]
 refine af rfl (dd rfl rfl zG trivial (by first | rfl | assumption)) ?_
 refine yA rfl rfl ?_
 refine yA rfl rfl ?_
 refine yN ?_
 dsimp only [St.put]
 refine K12 _ ?_
 refine am ?_
 refine dv rfl (cj (by constructor)) (cj (by constructor)) zN zS ?_ ?_
 ·rw [show p8 t e = j5 (ax e.ss) (d9 t) by rw [uiy he]; simp [p8, h0]]
  exact zW
 exact Wk.of_eq (vi h0.symm)
end Go.Proofs.YtjjklfgpffgnfaaGreatDoor
