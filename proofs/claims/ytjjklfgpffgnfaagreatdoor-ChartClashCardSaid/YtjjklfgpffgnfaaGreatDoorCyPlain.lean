/-
 Contracts of the program's functions of charts: sound editions, plain ones.
-/
import Derived.Test.YtjjklfgpffgnfaaGreatDoorCxTells
namespace Go.AB
open Go Go.RowKit
open Go.AB.Enc (cells)
open Go.PB (bv ai PlaceD cy c6 cz)
theorem ube {s : StretchD} {p v : L2} (hb : SBd s) : decide (({ s with tt := s.tt + 1 } : StretchD) = ⟨p.1, s.fr, p.2 + 1, v.1, v.2 - (p.2 + 1 - s.fr) + 1⟩) = lm s p v := by
 obtain ⟨a, b, c, d, e⟩ := s
 rw [Bool.eq_iff_iff, decide_eq_true_eq]
 simp only [lm, Bool.and_eq_true, decide_eq_true_eq, StretchD.mk.injEq]
 constructor
 ·rintro ⟨h1, _, h3, h4, h5⟩
  exact ⟨h1, by omega, h4, by omega⟩
 rintro ⟨h1, h3, h4, h5⟩
 exact ⟨h1, trivial, by omega, h4, by omega⟩
end Go.AB
namespace Go.Proofs.YtjjklfgpffgnfaaGreatDoor
set_option maxRecDepth 10000
open Go.RowKit Go.AB
open Go.AB.Enc (cells)
open Go.PB (bv ai PlaceD cy c6 cz)
theorem pp (t : ai) (e : av) (hl : e.ss.length ≤ 20) (h : bz t e = 0) (G : Nat → Option GObj) (nx : Nat) (hF : G 0 = some cv) :
  PC Tryz.prog 63 [b8 t, lst [e]] G nx fun r G' nx' => ∃ y : Nat × Nat, r = .tup [.list [[.elem (gi t e (nx + 1 + 1) (nx + 1 + 1 + 1))]] .none, .v (.int .i64 0)] ∧ G' = (ak (ak G (nx + 1 + 1) (bo Tryz.prog 115 y.1 (az ((ax e.ss))))) (nx + 1 + 1 + 1) (bo Tryz.prog 115 y.2 (az ((cn e.ss))))) ∧ nx' = nx + 1 + 1 + 1 + 1 := by
 refine pu (fun (y : Nat × Nat) => (ak (ak G (nx + 1 + 1) (bo Tryz.prog 115 y.1 (az ((ax e.ss))))) (nx + 1 + 1 + 1) (bo Tryz.prog 115 y.2 (az ((cn e.ss)))))) (nx + 1 + 1 + 1 + 1) Tryz.func63 rfl (.tup (ar (.list (by intro r hr c hc; rw [List.mem_singleton] at hr; subst hr; rw [List.mem_singleton] at hc; subst hc; exact .elem (ar .v (ar (bh _ _) (ar (bh _ _) (ar (.map (show nx + 1 + 1 < nx + 1 + 1 + 1 + 1 by omega)) (ar (.map (show nx + 1 + 1 + 1 < nx + 1 + 1 + 1 + 1 by omega)) bl)))))) (by simp)) (ar .v bl))) zN (fun hlt y => (by (repeat' (refine gt ?_ (by (try dsimp only); omega) ?_)); all_goals (first | exact ie zS | (repeat' (first | exact trivial | refine ⟨?_, ?_⟩ | exact .v | exact .any | refine .elem ?_ | exact bh _ _ | exact e9 _ _ | exact dq _ _ | exact ff _ (by (try dsimp only); omega) | exact .box (by (try dsimp only); omega) | exact ed | exact bl | exact gg (f9 _ _) | refine fa ?_ ?_ | exact .arr (by (try dsimp only); omega) | exact .own (by (try dsimp only); omega) | exact .map (by (try dsimp only); omega) | exact ez _ | refine ar ?_ ?_ | exact bh _ _))))) ?_
 simp only [Tryz.ntmps63, List.length_cons, List.length_nil, Nat.reduceAdd, Nat.reduceSub]
 refine bi fun hlt => ?_
 dsimp only at hlt
 have hnx := hlt 0 _ hF
 obtain ⟨h0, hf⟩ := lg h
 obtain ⟨ht, hl12, he⟩ := kq h0
 have hx : ([e] : List av)[0]? = some e := rfl
 refine yS fun _ K1 => ?_
 refine yR ?_
 try dsimp only [St.put]
 refine yB rfl rfl rfl ?_
 refine yA rfl rfl ?_
 refine yA rfl rfl ?_
 refine yN ?_
 dsimp only [St.put]
 refine K1 _ ?_
 refine yS fun _ K2 => ?_
 refine yS fun _ K3 => ?_
 refine yR ?_
 refine yM rfl rfl ?_
 refine aa rfl (ck rfl rfl (List.length_map _)) ?_
 refine yM rfl rfl ?_
 refine yN ?_
 dsimp only [St.put]
 refine K3 _ ?_
 refine bn ?_
 refine k9 2 ?_
 refine g8 fun KR4_0 hKR4_0 => ?_
 refine yS fun _ K5 => ?_
 refine yR ?_
 refine aa rfl (bt (c := true) (cr rfl rfl rfl) (by rfl)) ?_
 refine yN ?_
 dsimp only [St.put]
 refine K5 _ ?_
 refine yS fun _ K6 => ?_
 refine al rfl (fun _ => ?_) (fun h => by cases h)
 refine aw ?_
 refine K6 _ ?_
 refine yS fun _ K7 => ?_
 refine bn ?_
 refine yS fun _ K8 => ?_
 refine yR ?_
 try dsimp only [St.put]
 refine aa rfl (b7 (k := 0) rfl rfl rfl (by first | rfl | omega) (cm hx) (Enc.len _)) ?_
 refine yE rfl rfl rfl ?_
 try dsimp only [St.put]
 refine ae rfl (bp rfl ?_)
 try dsimp only [St.put]
 refine ae rfl (ay rfl rfl rfl zG rfl rfl (by rfl) ?_)
 refine yN ?_
 dsimp only [St.put]
 refine K8 _ ?_
 refine dg (i := 7) rfl zG (by first | exact List.cons_ne_nil _ _ | (simp; done) | (simp [putAt]; done)) ?_
 dsimp only
 refine yS fun _ K9 => ?_
 refine yR ?_
 try dsimp only [St.put]
 refine af rfl (aq rfl rfl rfl) ?_
 refine yE rfl rfl rfl ?_
 try dsimp only [St.put]
 refine ae rfl (eb rfl rfl rfl (kr t e hl) zG ?_)
 refine yA rfl rfl ?_
 refine yN ?_
 dsimp only [St.put]
 refine K9 _ ?_
 refine yS fun _ K10 => ?_
 refine yR ?_
 refine yM rfl rfl ?_
 refine aa rfl (bt (c := false) (dt rfl rfl rfl) (mq h0)) ?_
 refine yN ?_
 dsimp only [St.put]
 refine K10 _ ?_
 refine al rfl (fun h => by cases h) (fun _ => ?_)
 refine aw ?_
 refine K7 _ ?_
 refine yR ?_
 refine aa rfl (bw rfl rfl rfl (by omega)) ?_
 refine yM rfl rfl ?_
 refine yN ?_
 dsimp only [St.put]
 refine hKR4_0 _ ?_
 refine g8 fun KR4_1 hKR4_1 => ?_
 refine yS fun _ K11 => ?_
 refine yR ?_
 refine aa rfl (bt (c := false) (cr rfl rfl rfl) (by rfl)) ?_
 refine yN ?_
 dsimp only [St.put]
 refine K11 _ ?_
 refine yS fun _ K12 => ?_
 refine al rfl (fun h => by cases h) (fun _ => ?_)
 refine ey ?_
 refine K2 _ ?_
 refine yS fun _ K13 => ?_
 refine yR ?_
 refine yA rfl rfl ?_
 refine yN ?_
 dsimp only [St.put]
 refine K13 _ ?_
 refine yS fun _ K14 => ?_
 refine yS fun _ K15 => ?_
 refine yR ?_
 refine yM rfl rfl ?_
 refine aa rfl (ck rfl rfl (List.length_map _)) ?_
 refine yM rfl rfl ?_
 refine yN ?_
 dsimp only [St.put]
 refine K15 _ ?_
 refine bn ?_
 refine k9 2 ?_
 refine g8 fun KR16_0 hKR16_0 => ?_
 refine yS fun _ K17 => ?_
 refine yR ?_
 refine aa rfl (bt (c := true) (cr rfl rfl rfl) (by rfl)) ?_
 refine yN ?_
 dsimp only [St.put]
 refine K17 _ ?_
 refine yS fun _ K18 => ?_
 refine al rfl (fun _ => ?_) (fun h => by cases h)
 refine aw ?_
 refine K18 _ ?_
 refine yS fun _ K19 => ?_
 refine bn ?_
 refine yS fun _ K20 => ?_
 refine yR ?_
 try dsimp only [St.put]
 refine aa rfl (b7 (k := 0) rfl rfl rfl (by first | rfl | omega) (cm hx) (Enc.len _)) ?_
 refine yE rfl rfl rfl ?_
 try dsimp only [St.put]
 refine ae rfl (bp rfl ?_)
 try dsimp only [St.put]
 refine ae rfl (ay rfl rfl rfl zG rfl rfl (by rfl) ?_)
 refine yN ?_
 dsimp only [St.put]
 refine K20 _ ?_
 refine dg (i := 11) rfl zG (by first | exact List.cons_ne_nil _ _ | (simp; done) | (simp [putAt]; done)) ?_
 dsimp only
 refine fg G zX ?_
 refine yS fun _ K21 => ?_
 refine yR ?_
 try dsimp only [St.put]
 refine af rfl (aq rfl rfl rfl) ?_
 refine yE rfl rfl rfl ?_
 try dsimp only [St.put]
 refine ae rfl (i0 rfl rfl rfl (m6 t e hl12 he _ _) (fun y => ?_))
 refine yM rfl rfl ?_
 refine yX rfl rfl rfl rfl ?_
 refine yX rfl rfl rfl rfl ?_
 refine yX rfl rfl rfl rfl ?_
 refine yX rfl rfl rfl rfl ?_
 refine yA rfl rfl ?_
 refine yA rfl rfl ?_
 refine yA rfl rfl ?_
 refine yA rfl rfl ?_
 refine yN ?_
 dsimp only [St.put]
 refine K21 _ ?_
 refine yS fun _ K22 => ?_
 refine yS fun _ K23 => ?_
 refine yR ?_
 refine aa rfl (bt (c := false) (a8 rfl (by constructor)) (by rw [hf]; rfl)) ?_
 refine yN ?_
 dsimp only [St.put]
 refine K23 _ ?_
 refine al rfl (fun h => by cases h) (fun _ => ?_)
 refine aw ?_
 refine K22 _ ?_
 refine yR ?_
 refine yM rfl rfl ?_
 refine yM rfl rfl ?_
 try dsimp only [St.put]
 refine ae rfl (c9 rfl rfl rfl (by decide) (by decide) zR (by decide) ?_)
 try dsimp only [St.put]
 refine ae rfl (ub7 rfl rfl (.inr rfl) rfl (by decide) zR (by show 1 * _ ≤ _; decide) (by show 1 ≤ _; decide) ?_)
 refine yA rfl rfl ?_
 refine yN ?_
 dsimp only [St.put]
 refine K19 _ ?_
 refine yR ?_
 refine aa rfl (bw rfl rfl rfl (by omega)) ?_
 refine yM rfl rfl ?_
 refine yN ?_
 dsimp only [St.put]
 refine hKR16_0 _ ?_
 refine g8 fun KR16_1 hKR16_1 => ?_
 refine yS fun _ K24 => ?_
 refine yR ?_
 refine aa rfl (bt (c := false) (cr rfl rfl rfl) (by rfl)) ?_
 refine yN ?_
 dsimp only [St.put]
 refine K24 _ ?_
 refine yS fun _ K25 => ?_
 refine al rfl (fun h => by cases h) (fun _ => ?_)
 refine ey ?_
 refine K14 _ ?_
 refine yS fun _ K26 => ?_
 refine yR ?_
 refine yM rfl rfl ?_
 refine yA rfl rfl ?_
 refine yA rfl rfl ?_
 refine yN ?_
 dsimp only [St.put]
 refine K26 _ ?_
 refine am ?_
 refine ⟨y, ?_⟩
 refine dv rfl (cj (by constructor)) (cj (by constructor)) zN zX ?_ ?_
 ·exact zW
 exact zW
theorem ufa (t : ai) (e : av) (hl : e.ss.length ≤ 20) (h0 : cw t e ≠ 0) :
  da cv Tryz.prog 63 [b8 t, lst [e]] (.tup [.list [] .nil, .v (.int .i64 (cw t e))]) := by
 refine fy Tryz.func63 rfl (fun m => .tup (ar ed (ar .v bl))) fun G nx hF => ?_
 simp only [Tryz.ntmps63, List.length_cons, List.length_nil, Nat.reduceAdd, Nat.reduceSub]
 refine bi fun hlt => ?_
 dsimp only at hlt
 have hnx := hlt 0 _ hF
 have hx : ([e] : List av)[0]? = some e := rfl
 refine yS fun _ K1 => ?_
 refine yR ?_
 try dsimp only [St.put]
 refine yB rfl rfl rfl ?_
 refine yA rfl rfl ?_
 refine yA rfl rfl ?_
 refine yN ?_
 dsimp only [St.put]
 refine K1 _ ?_
 refine yS fun _ K2 => ?_
 refine yS fun _ K3 => ?_
 refine yR ?_
 refine yM rfl rfl ?_
 refine aa rfl (ck rfl rfl (List.length_map _)) ?_
 refine yM rfl rfl ?_
 refine yN ?_
 dsimp only [St.put]
 refine K3 _ ?_
 refine bn ?_
 refine k9 2 ?_
 refine g8 fun KR4_0 hKR4_0 => ?_
 refine yS fun _ K5 => ?_
 refine yR ?_
 refine aa rfl (bt (c := true) (cr rfl rfl rfl) (by rfl)) ?_
 refine yN ?_
 dsimp only [St.put]
 refine K5 _ ?_
 refine yS fun _ K6 => ?_
 refine al rfl (fun _ => ?_) (fun h => by cases h)
 refine aw ?_
 refine K6 _ ?_
 refine yS fun _ K7 => ?_
 refine bn ?_
 refine yS fun _ K8 => ?_
 refine yR ?_
 try dsimp only [St.put]
 refine aa rfl (b7 (k := 0) rfl rfl rfl (by first | rfl | omega) (cm hx) (Enc.len _)) ?_
 refine yE rfl rfl rfl ?_
 try dsimp only [St.put]
 refine ae rfl (bp rfl ?_)
 try dsimp only [St.put]
 refine ae rfl (ay rfl rfl rfl zG rfl rfl (by rfl) ?_)
 refine yN ?_
 dsimp only [St.put]
 refine K8 _ ?_
 refine dg (i := 7) rfl zG (by first | exact List.cons_ne_nil _ _ | (simp; done) | (simp [putAt]; done)) ?_
 dsimp only
 refine yS fun _ K9 => ?_
 refine yR ?_
 try dsimp only [St.put]
 refine af rfl (aq rfl rfl rfl) ?_
 refine yE rfl rfl rfl ?_
 try dsimp only [St.put]
 refine ae rfl (eb rfl rfl rfl (kr t e hl) zG ?_)
 refine yA rfl rfl ?_
 refine yN ?_
 dsimp only [St.put]
 refine K9 _ ?_
 refine yS fun _ K10 => ?_
 refine yR ?_
 refine yM rfl rfl ?_
 refine aa rfl (bt (c := true) (dt rfl rfl rfl) (kh h0)) ?_
 refine yN ?_
 dsimp only [St.put]
 refine K10 _ ?_
 refine al rfl (fun _ => ?_) (fun h => by cases h)
 refine yS fun _ K11 => ?_
 refine yR ?_
 refine yM rfl rfl ?_
 refine yA rfl rfl ?_
 refine yA rfl rfl ?_
 refine yN ?_
 dsimp only [St.put]
 refine K11 _ ?_
 refine am ?_
 refine je rfl (by constructor) (by constructor) zN zS ?_ ?_
 ·rfl
 rfl
theorem ue9 (t : ai) (e : av) (hl : e.ss.length ≤ 20) (h0 : cw t e = 0) (hf : (ef e.ss).isSome = true) :
  da cv Tryz.prog 63 [b8 t, lst [e]] (.tup [.list [] .nil, .v (.int .i64 8)]) := by
 refine fy Tryz.func63 rfl (fun m => .tup (ar ed (ar .v bl))) fun G nx hF => ?_
 simp only [Tryz.ntmps63, List.length_cons, List.length_nil, Nat.reduceAdd, Nat.reduceSub]
 refine bi fun hlt => ?_
 dsimp only at hlt
 have hnx := hlt 0 _ hF
 obtain ⟨ht, hl12, he⟩ := kq h0
 have hx : ([e] : List av)[0]? = some e := rfl
 refine yS fun _ K1 => ?_
 refine yR ?_
 try dsimp only [St.put]
 refine yB rfl rfl rfl ?_
 refine yA rfl rfl ?_
 refine yA rfl rfl ?_
 refine yN ?_
 dsimp only [St.put]
 refine K1 _ ?_
 refine yS fun _ K2 => ?_
 refine yS fun _ K3 => ?_
 refine yR ?_
 refine yM rfl rfl ?_
 refine aa rfl (ck rfl rfl (List.length_map _)) ?_
 refine yM rfl rfl ?_
 refine yN ?_
 dsimp only [St.put]
 refine K3 _ ?_
 refine bn ?_
 refine k9 2 ?_
 refine g8 fun KR4_0 hKR4_0 => ?_
 refine yS fun _ K5 => ?_
 refine yR ?_
 refine aa rfl (bt (c := true) (cr rfl rfl rfl) (by rfl)) ?_
 refine yN ?_
 dsimp only [St.put]
 refine K5 _ ?_
 refine yS fun _ K6 => ?_
 refine al rfl (fun _ => ?_) (fun h => by cases h)
 refine aw ?_
 refine K6 _ ?_
 refine yS fun _ K7 => ?_
 refine bn ?_
 refine yS fun _ K8 => ?_
 refine yR ?_
 try dsimp only [St.put]
 refine aa rfl (b7 (k := 0) rfl rfl rfl (by first | rfl | omega) (cm hx) (Enc.len _)) ?_
 refine yE rfl rfl rfl ?_
 try dsimp only [St.put]
 refine ae rfl (bp rfl ?_)
 try dsimp only [St.put]
 refine ae rfl (ay rfl rfl rfl zG rfl rfl (by rfl) ?_)
 refine yN ?_
 dsimp only [St.put]
 refine K8 _ ?_
 refine dg (i := 7) rfl zG (by first | exact List.cons_ne_nil _ _ | (simp; done) | (simp [putAt]; done)) ?_
 dsimp only
 refine yS fun _ K9 => ?_
 refine yR ?_
 try dsimp only [St.put]
 refine af rfl (aq rfl rfl rfl) ?_
 refine yE rfl rfl rfl ?_
 try dsimp only [St.put]
 refine ae rfl (eb rfl rfl rfl (kr t e hl) zG ?_)
 refine yA rfl rfl ?_
 refine yN ?_
 dsimp only [St.put]
 refine K9 _ ?_
 refine yS fun _ K10 => ?_
 refine yR ?_
 refine yM rfl rfl ?_
 refine aa rfl (bt (c := false) (dt rfl rfl rfl) (mq h0)) ?_
 refine yN ?_
 dsimp only [St.put]
 refine K10 _ ?_
 refine al rfl (fun h => by cases h) (fun _ => ?_)
 refine aw ?_
 refine K7 _ ?_
 refine yR ?_
 refine aa rfl (bw rfl rfl rfl (by omega)) ?_
 refine yM rfl rfl ?_
 refine yN ?_
 dsimp only [St.put]
 refine hKR4_0 _ ?_
 refine g8 fun KR4_1 hKR4_1 => ?_
 refine yS fun _ K11 => ?_
 refine yR ?_
 refine aa rfl (bt (c := false) (cr rfl rfl rfl) (by rfl)) ?_
 refine yN ?_
 dsimp only [St.put]
 refine K11 _ ?_
 refine yS fun _ K12 => ?_
 refine al rfl (fun h => by cases h) (fun _ => ?_)
 refine ey ?_
 refine K2 _ ?_
 refine yS fun _ K13 => ?_
 refine yR ?_
 refine yA rfl rfl ?_
 refine yN ?_
 dsimp only [St.put]
 refine K13 _ ?_
 refine yS fun _ K14 => ?_
 refine yS fun _ K15 => ?_
 refine yR ?_
 refine yM rfl rfl ?_
 refine aa rfl (ck rfl rfl (List.length_map _)) ?_
 refine yM rfl rfl ?_
 refine yN ?_
 dsimp only [St.put]
 refine K15 _ ?_
 refine bn ?_
 refine k9 2 ?_
 refine g8 fun KR16_0 hKR16_0 => ?_
 refine yS fun _ K17 => ?_
 refine yR ?_
 refine aa rfl (bt (c := true) (cr rfl rfl rfl) (by rfl)) ?_
 refine yN ?_
 dsimp only [St.put]
 refine K17 _ ?_
 refine yS fun _ K18 => ?_
 refine al rfl (fun _ => ?_) (fun h => by cases h)
 refine aw ?_
 refine K18 _ ?_
 refine yS fun _ K19 => ?_
 refine bn ?_
 refine yS fun _ K20 => ?_
 refine yR ?_
 try dsimp only [St.put]
 refine aa rfl (b7 (k := 0) rfl rfl rfl (by first | rfl | omega) (cm hx) (Enc.len _)) ?_
 refine yE rfl rfl rfl ?_
 try dsimp only [St.put]
 refine ae rfl (bp rfl ?_)
 try dsimp only [St.put]
 refine ae rfl (ay rfl rfl rfl zG rfl rfl (by rfl) ?_)
 refine yN ?_
 dsimp only [St.put]
 refine K20 _ ?_
 refine dg (i := 11) rfl zG (by first | exact List.cons_ne_nil _ _ | (simp; done) | (simp [putAt]; done)) ?_
 dsimp only
 refine yS fun _ K21 => ?_
 refine yR ?_
 try dsimp only [St.put]
 refine af rfl (aq rfl rfl rfl) ?_
 refine yE rfl rfl rfl ?_
 try dsimp only [St.put]
 refine ae rfl (i0 rfl rfl rfl (m6 t e hl12 he _ _) (fun y => ?_))
 refine yM rfl rfl ?_
 refine yX rfl rfl rfl rfl ?_
 refine yX rfl rfl rfl rfl ?_
 refine yX rfl rfl rfl rfl ?_
 refine yX rfl rfl rfl rfl ?_
 refine yA rfl rfl ?_
 refine yA rfl rfl ?_
 refine yA rfl rfl ?_
 refine yA rfl rfl ?_
 refine yN ?_
 dsimp only [St.put]
 refine K21 _ ?_
 refine yS fun _ K22 => ?_
 refine yS fun _ K23 => ?_
 refine yR ?_
 refine aa rfl (bt (c := true) (a8 rfl (by constructor)) hf) ?_
 refine yN ?_
 dsimp only [St.put]
 refine K23 _ ?_
 refine al rfl (fun _ => ?_) (fun h => by cases h)
 refine yS fun _ K24 => ?_
 refine yR ?_
 refine yA rfl rfl ?_
 refine yA rfl rfl ?_
 refine yN ?_
 dsimp only [St.put]
 refine K24 _ ?_
 refine am ?_
 refine je rfl (by constructor) (by constructor) zN zS ?_ ?_
 ·rfl
 rfl
theorem qr (t : ai) (e : av) (hl : e.ss.length ≤ 20) (h : bz t e ≠ 0) :
  da cv Tryz.prog 63 [b8 t, lst [e]] (.tup [.list [] .nil, .v (.int .i64 (bz t e))]) := by
 rcases ur h with ⟨h0, h1⟩ | ⟨h0, h1, h2⟩
 ·rw [h1]; exact ufa t e hl h0
 rw [h2]; exact ue9 t e hl h0 h1
/-! ### Plain editions -/
theorem ulz (t : ai) (e : av) (f : L2 → Option L2) (n m V : Nat) (ht : ct t = true) (hf : ∀ p v, f p = some v → -100000 ≤ v.2 ∧ v.2 ≤ 100000) (G : Nat → Option GObj) (nx : Nat) (hn : n < nx) (hm : m < nx) (hG : G n = some (bo Tryz.prog 115 V (az f))) :
  PC Tryz.prog 70 [.elem (gi t e n m)] G nx fun r G' nx' => ∃ y : Nat, r = .agg [.v (.int .i64 e.id), .own (nx + 1 + 1) (gd f (d9 t)).length (gd f (d9 t)).length] ∧ G' = ak G (nx + 1 + 1) (.arr (gd f (d9 t)).length y 48 5 (gd f (d9 t)).length (co (gd f (d9 t)))) ∧ nx' = nx + 1 + 1 + 1 := by
 refine pu (fun (y : Nat) => ak G (nx + 1 + 1) (.arr (gd f (d9 t)).length y 48 5 (gd f (d9 t)).length (co (gd f (d9 t))))) (nx + 1 + 1 + 1) Tryz.func70 rfl (.agg (ar .v (ar (.own (show nx + 1 + 1 < nx + 1 + 1 + 1 by omega)) bl))) zN (fun hlt y => zH) ?_
 simp only [Tryz.ntmps70, List.length_cons, List.length_nil, Nat.reduceAdd, Nat.reduceSub]
 refine bi fun hlt => ?_
 dsimp only at hlt
 refine yS fun _ K1 => ?_
 refine yR ?_
 try dsimp only [St.put]
 refine yB rfl rfl rfl ?_
 try dsimp only [St.put]
 refine ae rfl (bp rfl ?_)
 refine yN ?_
 dsimp only [St.put]
 refine K1 _ ?_
 refine yS fun _ K2 => ?_
 refine yR ?_
 refine yL rfl rfl rfl ?_
 refine aa rfl (iq rfl rfl) ?_
 refine yF rfl rfl rfl rfl ?_
 refine yF rfl rfl rfl rfl ?_
 refine yL rfl rfl rfl ?_
 refine aa rfl (du rfl rfl) ?_
 try dsimp only [St.put]
 refine ae rfl (bp rfl ?_)
 try dsimp only [St.put]
 refine ae rfl (ay rfl rfl rfl zG rfl rfl (by rfl) ?_)
 refine yN ?_
 dsimp only [St.put]
 refine K2 _ ?_
 refine ld (nx + 1) 1 _ _ 48 5 zG rfl (by decide) ?_
 dsimp only [List.set_cons_zero, List.set_cons_succ]
 refine yS fun _ K3 => ?_
 refine yS fun _ K4 => ?_
 refine yR ?_
 refine yL rfl rfl rfl ?_
 try dsimp only [St.put]
 refine ae rfl (f8 rfl rfl rfl (vu t e _ _ _ _ (by dsimp only [St.put]; omega) (by dsimp only [St.put]; omega)) ?_)
 refine yN ?_
 dsimp only [St.put]
 refine K4 _ ?_
 refine bn ?_
 refine eg 19 ?_
 simp only [dj, bq, Nat.reduceAdd, List.getD_cons_zero, List.getD_cons_succ, List.getD_nil, dw, Nat.reduceBEq, cond_true, cond_false]
 refine fg ((ak (ak (ak G nx (.box 0 [.v (.int .i64 0), .list [] .nil])) (nx + 1) (.box ((([] : List StretchD)).length + 1) [.v (.int .i64 e.id), .own (nx + 1 + 1) (([] : List StretchD)).length (([] : List StretchD)).length])) (nx + 1 + 1) (.arr (([] : List StretchD)).length 0 48 5 (([] : List StretchD)).length (co (([] : List StretchD)))))) zX ?_
 dsimp only
 refine xn (clL) [19, 20] (fun zs => (ak (ak (ak G nx (.box 0 [.v (.int .i64 0), .list [] .nil])) (nx + 1) (.box (((kg f (zs.map (·.1))).1).length + 1) [.v (.int .i64 e.id), .own (nx + 1 + 1) ((kg f (zs.map (·.1))).1).length ((kg f (zs.map (·.1))).1).length])) (nx + 1 + 1) (.arr ((kg f (zs.map (·.1))).1).length ((kg f (zs.map (·.1))).2) 48 5 ((kg f (zs.map (·.1))).1).length (co ((kg f (zs.map (·.1))).1))))) (fun _ _ (_ : Unit) => False) (fun _ => fun _ => none) (fun x => [(20, .v x.2), (19, .agg [.v (.int .i64 x.1.1), .v (.int .i64 x.1.2)])]) (vv t e n m) rfl rfl (fun _ => rfl) (fun xs hX => hX.cl) ?_ ?_ ?_ (fun _ _ _ h => h.elim) (fun xs hX lr pre x hx hlen hpre => ?_) (fun _ _ _ _ _ _ h => h.elim) (fun xs hX => ?_)
 ·intro pre x
  rfl
 ·exact zX
 ·intro zs
  exact zH
 ·have hxl : x.1 ∈ d9 t := hX.fst ▸ List.mem_map_of_mem hx
  have hxb := uar ht hxl
  have hlen' := ov ht
  rw [← hX.fst, List.length_map] at hlen'
  have hol := zb f (pre.map (·.1))
  rw [List.length_map] at hol
  have hob := uf9 hf (l := pre.map (·.1)) fun p hp => by
   obtain ⟨z, hz, rfl⟩ := List.mem_map.1 hp
   have := uar ht (show z.1 ∈ d9 t from hX.fst ▸ List.mem_map_of_mem (hpre z hz))
   omega
  rw [← zc] at hol hob
  obtain ⟨⟨out, w⟩, hout⟩ : ∃ o, kg f (pre.map (·.1)) = o := ⟨_, rfl⟩
  rw [hout] at hol hob ⊢
  dsimp only at hol hob ⊢
  have hsnoc : kg f ((pre ++ [x]).map (·.1)) = ke f (out, w) x.1 := by rw [List.map_append, List.map_cons, List.map_nil, uga, hout]
  refine yR ?_
  try dsimp only [St.put]
  refine ae rfl (bp rfl ?_)
  try dsimp only [St.put]
  refine ae rfl (ay rfl rfl rfl zG rfl rfl (by rfl) ?_)
  refine yN ?_
  dsimp only [St.put]
  show AW _ _ _ _ _
  refine dg (i := 4) rfl zG (by first | exact List.cons_ne_nil _ _ | (simp; done) | (simp [putAt]; done)) ?_
  dsimp only
  refine bn ?_
  refine yS fun _ K5 => ?_
  obtain ⟨v1, hv1⟩ : ∃ v : L2, (az f x.1).getD (iw (.agg #[.int .i64 0, .int .i64 0])) = .agg [.v (.int .i64 v.1), .v (.int .i64 v.2)] := n8 _ _
  obtain ⟨b1, hb1⟩ : ∃ b, (az f x.1).isSome = b := ⟨_, rfl⟩
  refine gj [(0, none), (1, none), (2, none), (3, none), (4, none), (5, none), (6, none), (7, none), (8, none), (9, none), (10, none), (11, none)] (fun i => [10].contains i) (fun i => [9, 10].contains i) (fun i => [1, 2, 6, 7, 8, 11].contains i) [n] (by kernel_rfl) (by kernel_rfl) ?_
  try dsimp only [St.put]
  refine aj rfl rfl rfl rfl (a7 rfl rfl) ?_
  refine ah rfl rfl rfl rfl (iq rfl rfl) ?_
  refine ah rfl rfl rfl rfl (b9 rfl rfl rfl) ?_
  try dsimp only [St.put]
  refine aj rfl rfl rfl rfl (a7 rfl rfl) ?_
  try dsimp only [St.put]
  refine aj rfl rfl rfl rfl (aq rfl rfl rfl) ?_
  try dsimp only [St.put]
  refine aj rfl rfl rfl rfl (nt x.1 rfl rfl zG (by simp) rfl hv1 hb1) ?_
  refine xM rfl rfl rfl rfl rfl ?_
  refine ah rfl rfl rfl rfl (c7 rfl rfl rfl) ?_
  refine ah rfl rfl rfl rfl (c7 rfl rfl rfl) ?_
  refine il ?_
  try dsimp only [St.put]
  refine jl rfl rfl rfl (bp rfl ⟨zD, ?_⟩)
  try dsimp only [St.put]
  refine gn rfl rfl rfl rfl (ay rfl rfl rfl zG rfl rfl (by rfl) ?_)
  refine jk rfl rfl rfl rfl (cg rfl (by constructor)) ?_
  refine ij ?_
  dsimp only [St.put]
  refine K5 _ ?_
  refine dg (i := 5) rfl zG (by first | exact List.cons_ne_nil _ _ | (simp; done) | (simp [putAt]; done)) ?_
  dsimp only
  refine yS fun _ K6 => ?_
  refine yS fun _ K7 => ?_
  refine yR ?_
  refine yM rfl rfl ?_
  refine aa rfl (dn rfl rfl) ?_
  refine yN ?_
  dsimp only [St.put]
  refine K7 _ ?_
  refine al rfl (fun hc => ?_) (fun hc => ?_)
  ·have hno : f x.1 = none := by
    have : b1 = false := by simpa using hc
    rw [this] at hb1
    exact capp_none.1 (by simpa using hb1)
   refine ey ?_
   unfold my mj
   dsimp only
   rw [hsnoc]
   first
   | (rw [sd hno]
      exact zX)
   | (rw [hnew]
      simp only [List.length_append]
      exact zX)
   | (rw [hon]
      simp only [List.length_set]
      exact zX)
  have hys : f x.1 = some v1 := by
   have : b1 = true := by simpa using hc
   rw [this] at hb1
   obtain ⟨v, hv⟩ : ∃ v, f x.1 = some v := by
    cases h : f x.1 with
    | none => simp [az, h] at hb1
    | some v => exact ⟨v, rfl⟩
   unfold az at hv1
   rw [hv] at hv1
   simp only [Option.map_some, Option.getD_some, oh, C.agg.injEq, List.cons.injEq, C.v.injEq, Value.int.injEq, true_and, and_true] at hv1
   rw [hv, Prod.ext hv1.1 hv1.2]
  have hvb := hf _ _ hys
  refine aw ?_
  refine K6 _ ?_
  refine yS fun _ K8 => ?_
  refine yR ?_
  try dsimp only [St.put]
  refine aa rfl (fb (k := 0) rfl rfl rfl (by first | exact rfl | omega) (by first | decide | omega) rfl) ?_
  refine yL rfl rfl rfl ?_
  try dsimp only [St.put]
  refine aa rfl (fb (k := 1) rfl rfl rfl (by first | exact rfl | omega) (by first | decide | omega) rfl) ?_
  refine yL rfl rfl rfl ?_
  try dsimp only [St.put]
  refine aa rfl (fb (k := 1) rfl rfl rfl (by first | exact rfl | omega) (by first | decide | omega) rfl) ?_
  refine yL rfl rfl rfl ?_
  refine aa rfl (bw rfl rfl rfl (by omega)) ?_
  try dsimp only [St.put]
  refine aa rfl (fb (k := 0) rfl rfl rfl (by first | exact rfl | omega) (by first | decide | omega) rfl) ?_
  refine yL rfl rfl rfl ?_
  try dsimp only [St.put]
  refine aa rfl (fb (k := 1) rfl rfl rfl (by first | exact rfl | omega) (by first | decide | omega) rfl) ?_
  refine yL rfl rfl rfl ?_
  refine aa rfl (du rfl rfl) ?_
  try dsimp only [St.put]
  refine ae rfl (bp rfl ?_)
  try dsimp only [St.put]
  refine ae rfl (ay rfl rfl rfl zG rfl rfl (by rfl) ?_)
  refine yN ?_
  dsimp only [St.put]
  refine K8 _ ?_
  refine dg (i := 7) rfl zG (by first | exact List.cons_ne_nil _ _ | (simp; done) | (simp [putAt]; done)) ?_
  dsimp only
  refine yS fun _ K9 => ?_
  refine yS fun _ K10 => ?_
  refine yR ?_
  refine aa rfl (ge rfl rfl) ?_
  try dsimp only [St.put]
  refine af rfl (dd rfl rfl zG trivial (by first | rfl | assumption)) ?_
  refine aa rfl (oq rfl rfl) ?_
  refine aa rfl (ip rfl rfl rfl (by omega)) ?_
  refine yA rfl rfl ?_
  refine yN ?_
  dsimp only [St.put]
  refine K10 _ ?_
  refine yS fun _ K11 => ?_
  refine yR ?_
  refine yM rfl rfl ?_
  refine aa rfl (m9 rfl rfl rfl) ?_
  refine yN ?_
  dsimp only [St.put]
  refine K11 _ ?_
  refine al rfl (fun hc => ?_) (fun hc => ?_)
  ·replace hc := of_decide_eq_true hc
   obtain ⟨s, hz⟩ : ∃ x, out[out.length - 1]? = some x := fj (by omega)
   obtain ⟨c1, c2, c3⟩ := hob s (gr hz)
   have hsb := hob s (gr hz)
   refine yS fun _ K12 => ?_
   refine yR ?_
   refine aa rfl (ge rfl rfl) ?_
   try dsimp only [St.put]
   refine af rfl (dd rfl rfl zG trivial (by first | rfl | assumption)) ?_
   refine yM rfl rfl ?_
   try dsimp only [St.put]
   refine aa rfl (ra (k := (out.length - 1)) rfl rfl zG rfl (by first | exact rfl | omega) (by first | omega | (simp; omega))) ?_
   try dsimp only [St.put]
   refine af rfl (ei (α := StretchD) (k := out.length - 1) (y := s) rfl rfl zG trivial rfl hz rfl (by decide)) ?_
   try dsimp only [St.put]
   refine ae rfl (bp rfl ?_)
   try dsimp only [St.put]
   refine ae rfl (ay rfl rfl rfl zG rfl rfl (by rfl) ?_)
   refine yN ?_
   dsimp only [St.put]
   refine K12 _ ?_
   refine yS fun _ K13 => ?_
   refine yR ?_
   refine aa rfl (ge rfl rfl) ?_
   try dsimp only [St.put]
   refine af rfl (dd rfl rfl zG trivial (by first | rfl | assumption)) ?_
   refine aa rfl (bw rfl rfl rfl (by omega)) ?_
   refine aa rfl (ge rfl rfl) ?_
   try dsimp only [St.put]
   refine ae rfl (lq rfl rfl rfl zG (by constructor) rfl (by first | (simp; done) | (simp; omega) | exact Nat.lt_of_lt_of_eq (by decide) (Enc.len _).symm) ?_)
   refine yN ?_
   dsimp only [St.put]
   refine K13 _ ?_
   refine yS fun _ K14 => ?_
   refine yR ?_
   refine yF rfl rfl rfl rfl ?_
   refine yL rfl rfl rfl ?_
   refine aa rfl (ge rfl rfl) ?_
   try dsimp only [St.put]
   refine af rfl (dd rfl rfl zG trivial (by first | rfl | assumption)) ?_
   refine aa rfl (ip rfl rfl rfl (by omega)) ?_
   refine yA rfl rfl ?_
   refine yN ?_
   dsimp only [St.put]
   refine K14 _ ?_
   refine yS fun _ K15 => ?_
   refine yR ?_
   try dsimp only [St.put]
   refine af rfl (dc rfl rfl zG trivial (by rfl)) ?_
   refine yF rfl rfl rfl rfl ?_
   refine yL rfl rfl rfl ?_
   refine aa rfl (ge rfl rfl) ?_
   try dsimp only [St.put]
   refine af rfl (dd rfl rfl zG trivial (by first | rfl | assumption)) ?_
   refine yF rfl rfl rfl rfl ?_
   refine yL rfl rfl rfl ?_
   refine yF rfl rfl rfl rfl ?_
   refine yL rfl rfl rfl ?_
   refine yF rfl rfl rfl rfl ?_
   refine yL rfl rfl rfl ?_
   refine yM rfl rfl ?_
   refine aa rfl (ip rfl rfl rfl (by omega)) ?_
   refine aa rfl (bw rfl rfl rfl (by omega)) ?_
   refine aa rfl (du rfl rfl) ?_
   refine aa rfl (nz (x := { s with tt := s.tt + 1 }) (y := ⟨x.1.1, s.fr, x.1.2 + 1, v1.1, v1.2 - (x.1.2 + 1 - s.fr) + 1⟩) rfl rfl rfl) ?_
   refine yN ?_
   dsimp only [St.put]
   refine K15 _ ?_
   refine al rfl (fun hc => ?_) (fun hc => ?_)
   ·have hg : lm s x.1 v1 = true := (ube hsb).symm.trans hc
    have hon := ues (w := w) hys hz hg
    refine yS fun _ K16 => ?_
    refine yR ?_
    refine aa rfl (ge rfl rfl) ?_
    try dsimp only [St.put]
    refine af rfl (dd rfl rfl zG trivial (by first | rfl | assumption)) ?_
    refine yM rfl rfl ?_
    try dsimp only [St.put]
    refine af rfl (dc rfl rfl zG trivial (by rfl)) ?_
    try dsimp only [St.put]
    refine aa rfl (ra (k := (out.length - 1)) rfl rfl zG rfl (by first | exact rfl | omega) (by first | omega | (simp; omega))) ?_
    try dsimp only [St.put]
    refine ae rfl (ujw (k := out.length - 1) (z := s) (z' := { s with tt := s.tt + 1 }) rfl rfl rfl zG rfl rfl hz rfl (by decide) ?_)
    refine yN ?_
    dsimp only [St.put]
    refine K16 _ ?_
    refine ey ?_
    unfold my mj
    dsimp only
    rw [hsnoc]
    first
    | (rw [sd hno]
       exact zX)
    | (rw [hnew]
       simp only [List.length_append]
       exact zX)
    | (rw [hon]
       simp only [List.length_set]
       exact zX)
   have hg : lm s x.1 v1 = false := (ube hsb).symm.trans hc
   have hnew := ueu (w := w) hys hz hg
   refine aw ?_
   refine K9 _ ?_
   refine yR ?_
   refine aa rfl (ge rfl rfl) ?_
   try dsimp only [St.put]
   refine af rfl (dd rfl rfl zG trivial (by first | rfl | assumption)) ?_
   try dsimp only [St.put]
   refine af rfl (aq rfl rfl rfl) ?_
   try dsimp only [St.put]
   refine ae rfl (c9 rfl rfl rfl (by decide) (by decide) zR (by decide) ?_)
   try dsimp only [St.put]
   refine ae rfl (qe (⟨x.1.1, x.1.2, x.1.2 + 1, v1.1, v1.2⟩ : StretchD) rfl rfl zG rfl rfl rfl rfl zA ?_ zA)
   refine aa rfl (ge rfl rfl) ?_
   try dsimp only [St.put]
   refine ae rfl (lq rfl rfl rfl zG (by constructor) rfl (by first | (simp; done) | (simp; omega) | exact Nat.lt_of_lt_of_eq (by decide) (Enc.len _).symm) ?_)
   refine yN ?_
   dsimp only [St.put]
   unfold my mj
   dsimp only
   rw [hsnoc]
   first
   | (rw [sd hno]
      exact zX)
   | (rw [hnew]
      simp only [List.length_append]
      exact zX)
   | (rw [hon]
      simp only [List.length_set]
      exact zX)
  replace hc := of_decide_eq_false hc
  have hnew := uet (w := w) hys (List.eq_nil_of_length_eq_zero (show out.length = 0 by omega))
  refine aw ?_
  refine K9 _ ?_
  refine yR ?_
  refine aa rfl (ge rfl rfl) ?_
  try dsimp only [St.put]
  refine af rfl (dd rfl rfl zG trivial (by first | rfl | assumption)) ?_
  try dsimp only [St.put]
  refine af rfl (aq rfl rfl rfl) ?_
  try dsimp only [St.put]
  refine ae rfl (c9 rfl rfl rfl (by decide) (by decide) zR (by decide) ?_)
  try dsimp only [St.put]
  refine ae rfl (qe (⟨x.1.1, x.1.2, x.1.2 + 1, v1.1, v1.2⟩ : StretchD) rfl rfl zG rfl rfl rfl rfl zA ?_ zA)
  refine aa rfl (ge rfl rfl) ?_
  try dsimp only [St.put]
  refine ae rfl (lq rfl rfl rfl zG (by constructor) rfl (by first | (simp; done) | (simp; omega) | exact Nat.lt_of_lt_of_eq (by decide) (Enc.len _).symm) ?_)
  refine yN ?_
  dsimp only [St.put]
  unfold my mj
  dsimp only
  rw [hsnoc]
  first
  | (rw [sd hno]
     exact zX)
  | (rw [hnew]
     simp only [List.length_append]
     exact zX)
  | (rw [hon]
     simp only [List.length_set]
     exact zX)
 dsimp only
 rw [hX.fst, zc]
 refine K3 _ ?_
 refine yS fun _ K17 => ?_
 refine yR ?_
 try dsimp only [St.put]
 refine af rfl (dc rfl rfl zG trivial (by rfl)) ?_
 try dsimp only [St.put]
 refine ae rfl (ay rfl rfl rfl zG rfl rfl (by rfl) ?_)
 refine yN ?_
 dsimp only [St.put]
 refine K17 _ ?_
 refine am ?_
 refine ⟨(kg f (d9 t)).2, ?_⟩
 refine lp rfl (et rfl zG (by rfl) (by first | exact List.cons_ne_nil _ _ | (simp; done) | (simp [putAt]; done)) rfl) zN zX ?_
 exact zW
end Go.Proofs.YtjjklfgpffgnfaaGreatDoor
