/-
 Contracts of the program's functions of charts: sound editions, plain ones.
-/
import Derived.Test.YtjjklfgpffgnfabGreatDoorCxTells
namespace Go.AB
open Go Go.RowKit
open Go.AB.Enc (cells)
open Go.PB (bh af PlaceD ar bp cj)
theorem udc {s : StretchD} {p v : L2} (hb : SBd s) : decide (({ s with tt := s.tt + 1 } : StretchD) = ⟨p.1, s.fr, p.2 + 1, v.1, v.2 - (p.2 + 1 - s.fr) + 1⟩) = l4 s p v := by
 obtain ⟨a, b, c, d, e⟩ := s
 rw [Bool.eq_iff_iff, decide_eq_true_eq]
 simp only [l4, Bool.and_eq_true, decide_eq_true_eq, StretchD.mk.injEq]
 constructor
 ·rintro ⟨h1, _, h3, h4, h5⟩
  exact ⟨h1, by omega, h4, by omega⟩
 rintro ⟨h1, h3, h4, h5⟩
 exact ⟨h1, trivial, by omega, h4, by omega⟩
end Go.AB
namespace Go.Proofs.YtjjklfgpffgnfabGreatDoor
set_option maxRecDepth 10000
open Go.RowKit Go.AB
open Go.AB.Enc (cells)
open Go.PB (bh af PlaceD ar bp cj)
theorem qc (t : af) (e : aw) (hl : e.ss.length ≤ 20) (h : cb t e = 0) (G : Nat → Option GObj) (nx : Nat) (hF : G 0 = some cr) :
  PC Tryz.prog 52 [b7 t, lst [e]] G nx fun r G' nx' => ∃ y : Nat × Nat, r = .tup [.list [[.elem (gg t e (nx + 1 + 1) (nx + 1 + 1 + 1))]] .none, .v (.int .i64 0)] ∧ G' = (ah (ah G (nx + 1 + 1) (bl Tryz.prog 95 y.1 (a8 ((av e.ss))))) (nx + 1 + 1 + 1) (bl Tryz.prog 95 y.2 (a8 ((cn e.ss))))) ∧ nx' = nx + 1 + 1 + 1 + 1 := by
 refine qg (fun (y : Nat × Nat) => (ah (ah G (nx + 1 + 1) (bl Tryz.prog 95 y.1 (a8 ((av e.ss))))) (nx + 1 + 1 + 1) (bl Tryz.prog 95 y.2 (a8 ((cn e.ss)))))) (nx + 1 + 1 + 1 + 1) Tryz.func52 rfl (.tup (am (.list (by intro r hr c hc; rw [List.mem_singleton] at hr; subst hr; rw [List.mem_singleton] at hc; subst hc; exact .elem (am .v (am (bd _ _) (am (bd _ _) (am (.map (show nx + 1 + 1 < nx + 1 + 1 + 1 + 1 by omega)) (am (.map (show nx + 1 + 1 + 1 < nx + 1 + 1 + 1 + 1 by omega)) bn)))))) (by simp)) (am .v bn))) zN (fun hlt y => (by (repeat' (refine f9 ?_ (by (try dsimp only); omega) ?_)); all_goals (first | exact gw zS | (repeat' (first | exact trivial | refine ⟨?_, ?_⟩ | exact .v | exact .any | refine .elem ?_ | exact bd _ _ | exact ed _ _ | exact da _ _ | exact eg _ (by (try dsimp only); omega) | exact .box (by (try dsimp only); omega) | exact dp | exact bn | exact gd (fo _ _) | refine ef ?_ ?_ | exact .arr (by (try dsimp only); omega) | exact .own (by (try dsimp only); omega) | exact .map (by (try dsimp only); omega) | exact du _ | refine am ?_ ?_ | exact bd _ _))))) ?_
 simp only [Tryz.ntmps52, List.length_cons, List.length_nil, Nat.reduceAdd, Nat.reduceSub]
 refine bf fun hlt => ?_
 dsimp only at hlt
 have hnx := hlt 0 _ hF
 obtain ⟨h0, hf⟩ := lp h
 obtain ⟨ht, hl12, he⟩ := k8 h0
 have hx : ([e] : List aw)[0]? = some e := rfl
 refine yS fun _ K1 => ?_
 refine yR ?_
 try dsimp only [St.put]
 refine yB rfl rfl rfl ?_
 refine yA rfl rfl ?_
 refine yA rfl rfl ?_
 refine yN ?_
 dsimp only [St.put]
 refine K1 _ ?_
 refine yS fun _ K2 => ?_
 refine yS fun _ K3 => ?_
 refine yR ?_
 refine yM rfl rfl ?_
 refine aa rfl (bx rfl rfl (List.length_map _)) ?_
 refine yM rfl rfl ?_
 refine yN ?_
 dsimp only [St.put]
 refine K3 _ ?_
 refine bg ?_
 refine lk 2 ?_
 refine gz fun KR4_0 hKR4_0 => ?_
 refine yS fun _ K5 => ?_
 refine yR ?_
 refine aa rfl (br (c := true) (ck rfl rfl rfl) (by rfl)) ?_
 refine yN ?_
 dsimp only [St.put]
 refine K5 _ ?_
 refine yS fun _ K6 => ?_
 refine ak rfl (fun _ => ?_) (fun h => by cases h)
 refine aq ?_
 refine K6 _ ?_
 refine yS fun _ K7 => ?_
 refine bg ?_
 refine yS fun _ K8 => ?_
 refine yR ?_
 try dsimp only [St.put]
 refine aa rfl (b8 (k := 0) rfl rfl rfl (by first | rfl | omega) (cg hx) (Enc.len _)) ?_
 refine yE rfl rfl rfl ?_
 try dsimp only [St.put]
 refine ae rfl (bj rfl ?_)
 try dsimp only [St.put]
 refine ae rfl (ax rfl rfl rfl zG rfl rfl (by rfl) ?_)
 refine yN ?_
 dsimp only [St.put]
 refine K8 _ ?_
 refine cw (i := 7) rfl zG (by first | exact List.cons_ne_nil _ _ | (simp; done) | (simp [putAt]; done)) ?_
 dsimp only
 refine yS fun _ K9 => ?_
 refine yR ?_
 try dsimp only [St.put]
 refine ba rfl (bk rfl rfl rfl) ?_
 refine yE rfl rfl rfl ?_
 try dsimp only [St.put]
 refine ae rfl (dq rfl rfl rfl (ko t e hl) zG ?_)
 refine yA rfl rfl ?_
 refine yN ?_
 dsimp only [St.put]
 refine K9 _ ?_
 refine yS fun _ K10 => ?_
 refine yR ?_
 refine yM rfl rfl ?_
 refine aa rfl (br (c := false) (cz rfl rfl rfl) (j8 h0)) ?_
 refine yN ?_
 dsimp only [St.put]
 refine K10 _ ?_
 refine ak rfl (fun h => by cases h) (fun _ => ?_)
 refine aq ?_
 refine K7 _ ?_
 refine yR ?_
 refine aa rfl (ca rfl rfl rfl (by omega)) ?_
 refine yM rfl rfl ?_
 refine yN ?_
 dsimp only [St.put]
 refine hKR4_0 _ ?_
 refine gz fun KR4_1 hKR4_1 => ?_
 refine yS fun _ K11 => ?_
 refine yR ?_
 refine aa rfl (br (c := false) (ck rfl rfl rfl) (by rfl)) ?_
 refine yN ?_
 dsimp only [St.put]
 refine K11 _ ?_
 refine yS fun _ K12 => ?_
 refine ak rfl (fun h => by cases h) (fun _ => ?_)
 refine dl ?_
 refine K2 _ ?_
 refine yS fun _ K13 => ?_
 refine yR ?_
 refine yA rfl rfl ?_
 refine yN ?_
 dsimp only [St.put]
 refine K13 _ ?_
 refine yS fun _ K14 => ?_
 refine yS fun _ K15 => ?_
 refine yR ?_
 refine yM rfl rfl ?_
 refine aa rfl (bx rfl rfl (List.length_map _)) ?_
 refine yM rfl rfl ?_
 refine yN ?_
 dsimp only [St.put]
 refine K15 _ ?_
 refine bg ?_
 refine lk 2 ?_
 refine gz fun KR16_0 hKR16_0 => ?_
 refine yS fun _ K17 => ?_
 refine yR ?_
 refine aa rfl (br (c := true) (ck rfl rfl rfl) (by rfl)) ?_
 refine yN ?_
 dsimp only [St.put]
 refine K17 _ ?_
 refine yS fun _ K18 => ?_
 refine ak rfl (fun _ => ?_) (fun h => by cases h)
 refine aq ?_
 refine K18 _ ?_
 refine yS fun _ K19 => ?_
 refine bg ?_
 refine yS fun _ K20 => ?_
 refine yR ?_
 try dsimp only [St.put]
 refine aa rfl (b8 (k := 0) rfl rfl rfl (by first | rfl | omega) (cg hx) (Enc.len _)) ?_
 refine yE rfl rfl rfl ?_
 try dsimp only [St.put]
 refine ae rfl (bj rfl ?_)
 try dsimp only [St.put]
 refine ae rfl (ax rfl rfl rfl zG rfl rfl (by rfl) ?_)
 refine yN ?_
 dsimp only [St.put]
 refine K20 _ ?_
 refine cw (i := 11) rfl zG (by first | exact List.cons_ne_nil _ _ | (simp; done) | (simp [putAt]; done)) ?_
 dsimp only
 refine dv G zX ?_
 refine yS fun _ K21 => ?_
 refine yR ?_
 try dsimp only [St.put]
 refine ba rfl (bk rfl rfl rfl) ?_
 refine yE rfl rfl rfl ?_
 try dsimp only [St.put]
 refine ae rfl (iy rfl rfl rfl (nd t e hl12 he _ _) (fun y => ?_))
 refine yM rfl rfl ?_
 refine yX rfl rfl rfl rfl ?_
 refine yX rfl rfl rfl rfl ?_
 refine yX rfl rfl rfl rfl ?_
 refine yX rfl rfl rfl rfl ?_
 refine yA rfl rfl ?_
 refine yA rfl rfl ?_
 refine yA rfl rfl ?_
 refine yA rfl rfl ?_
 refine yN ?_
 dsimp only [St.put]
 refine K21 _ ?_
 refine yS fun _ K22 => ?_
 refine yS fun _ K23 => ?_
 refine yR ?_
 refine aa rfl (br (c := false) (i2 rfl (by constructor)) (by rw [hf]; rfl)) ?_
 refine yN ?_
 dsimp only [St.put]
 refine K23 _ ?_
 refine ak rfl (fun h => by cases h) (fun _ => ?_)
 refine aq ?_
 refine K22 _ ?_
 refine yR ?_
 refine yM rfl rfl ?_
 refine yM rfl rfl ?_
 try dsimp only [St.put]
 refine ae rfl (cq rfl rfl rfl (by decide) (by decide) zR (by decide) ?_)
 try dsimp only [St.put]
 refine ae rfl (ued rfl rfl (.inr rfl) rfl (by decide) zR (by show 1 * _ ≤ _; decide) (by show 1 ≤ _; decide) ?_)
 refine yA rfl rfl ?_
 refine yN ?_
 dsimp only [St.put]
 refine K19 _ ?_
 refine yR ?_
 refine aa rfl (ca rfl rfl rfl (by omega)) ?_
 refine yM rfl rfl ?_
 refine yN ?_
 dsimp only [St.put]
 refine hKR16_0 _ ?_
 refine gz fun KR16_1 hKR16_1 => ?_
 refine yS fun _ K24 => ?_
 refine yR ?_
 refine aa rfl (br (c := false) (ck rfl rfl rfl) (by rfl)) ?_
 refine yN ?_
 dsimp only [St.put]
 refine K24 _ ?_
 refine yS fun _ K25 => ?_
 refine ak rfl (fun h => by cases h) (fun _ => ?_)
 refine dl ?_
 refine K14 _ ?_
 refine yS fun _ K26 => ?_
 refine yR ?_
 refine yM rfl rfl ?_
 refine yA rfl rfl ?_
 refine yA rfl rfl ?_
 refine yN ?_
 dsimp only [St.put]
 refine K26 _ ?_
 refine aj ?_
 refine ⟨y, ?_⟩
 refine dj rfl (ci (by constructor)) (ci (by constructor)) zN zX ?_ ?_
 ·exact zW
 exact zW
theorem uhs (t : af) (e : aw) (hl : e.ss.length ≤ 20) (h0 : ct t e ≠ 0) :
  c8 cr Tryz.prog 52 [b7 t, lst [e]] (.tup [.list [] .nil, .v (.int .i64 (ct t e))]) := by
 refine fw Tryz.func52 rfl (fun m => .tup (am dp (am .v bn))) fun G nx hF => ?_
 simp only [Tryz.ntmps52, List.length_cons, List.length_nil, Nat.reduceAdd, Nat.reduceSub]
 refine bf fun hlt => ?_
 dsimp only at hlt
 have hnx := hlt 0 _ hF
 have hx : ([e] : List aw)[0]? = some e := rfl
 refine yS fun _ K1 => ?_
 refine yR ?_
 try dsimp only [St.put]
 refine yB rfl rfl rfl ?_
 refine yA rfl rfl ?_
 refine yA rfl rfl ?_
 refine yN ?_
 dsimp only [St.put]
 refine K1 _ ?_
 refine yS fun _ K2 => ?_
 refine yS fun _ K3 => ?_
 refine yR ?_
 refine yM rfl rfl ?_
 refine aa rfl (bx rfl rfl (List.length_map _)) ?_
 refine yM rfl rfl ?_
 refine yN ?_
 dsimp only [St.put]
 refine K3 _ ?_
 refine bg ?_
 refine lk 2 ?_
 refine gz fun KR4_0 hKR4_0 => ?_
 refine yS fun _ K5 => ?_
 refine yR ?_
 refine aa rfl (br (c := true) (ck rfl rfl rfl) (by rfl)) ?_
 refine yN ?_
 dsimp only [St.put]
 refine K5 _ ?_
 refine yS fun _ K6 => ?_
 refine ak rfl (fun _ => ?_) (fun h => by cases h)
 refine aq ?_
 refine K6 _ ?_
 refine yS fun _ K7 => ?_
 refine bg ?_
 refine yS fun _ K8 => ?_
 refine yR ?_
 try dsimp only [St.put]
 refine aa rfl (b8 (k := 0) rfl rfl rfl (by first | rfl | omega) (cg hx) (Enc.len _)) ?_
 refine yE rfl rfl rfl ?_
 try dsimp only [St.put]
 refine ae rfl (bj rfl ?_)
 try dsimp only [St.put]
 refine ae rfl (ax rfl rfl rfl zG rfl rfl (by rfl) ?_)
 refine yN ?_
 dsimp only [St.put]
 refine K8 _ ?_
 refine cw (i := 7) rfl zG (by first | exact List.cons_ne_nil _ _ | (simp; done) | (simp [putAt]; done)) ?_
 dsimp only
 refine yS fun _ K9 => ?_
 refine yR ?_
 try dsimp only [St.put]
 refine ba rfl (bk rfl rfl rfl) ?_
 refine yE rfl rfl rfl ?_
 try dsimp only [St.put]
 refine ae rfl (dq rfl rfl rfl (ko t e hl) zG ?_)
 refine yA rfl rfl ?_
 refine yN ?_
 dsimp only [St.put]
 refine K9 _ ?_
 refine yS fun _ K10 => ?_
 refine yR ?_
 refine yM rfl rfl ?_
 refine aa rfl (br (c := true) (cz rfl rfl rfl) (lf h0)) ?_
 refine yN ?_
 dsimp only [St.put]
 refine K10 _ ?_
 refine ak rfl (fun _ => ?_) (fun h => by cases h)
 refine yS fun _ K11 => ?_
 refine yR ?_
 refine yM rfl rfl ?_
 refine yA rfl rfl ?_
 refine yA rfl rfl ?_
 refine yN ?_
 dsimp only [St.put]
 refine K11 _ ?_
 refine aj ?_
 refine ix rfl (by constructor) (by constructor) zN zS ?_ ?_
 ·rfl
 rfl
theorem uhr (t : af) (e : aw) (hl : e.ss.length ≤ 20) (h0 : ct t e = 0) (hf : (ff e.ss).isSome = true) :
  c8 cr Tryz.prog 52 [b7 t, lst [e]] (.tup [.list [] .nil, .v (.int .i64 8)]) := by
 refine fw Tryz.func52 rfl (fun m => .tup (am dp (am .v bn))) fun G nx hF => ?_
 simp only [Tryz.ntmps52, List.length_cons, List.length_nil, Nat.reduceAdd, Nat.reduceSub]
 refine bf fun hlt => ?_
 dsimp only at hlt
 have hnx := hlt 0 _ hF
 obtain ⟨ht, hl12, he⟩ := k8 h0
 have hx : ([e] : List aw)[0]? = some e := rfl
 refine yS fun _ K1 => ?_
 refine yR ?_
 try dsimp only [St.put]
 refine yB rfl rfl rfl ?_
 refine yA rfl rfl ?_
 refine yA rfl rfl ?_
 refine yN ?_
 dsimp only [St.put]
 refine K1 _ ?_
 refine yS fun _ K2 => ?_
 refine yS fun _ K3 => ?_
 refine yR ?_
 refine yM rfl rfl ?_
 refine aa rfl (bx rfl rfl (List.length_map _)) ?_
 refine yM rfl rfl ?_
 refine yN ?_
 dsimp only [St.put]
 refine K3 _ ?_
 refine bg ?_
 refine lk 2 ?_
 refine gz fun KR4_0 hKR4_0 => ?_
 refine yS fun _ K5 => ?_
 refine yR ?_
 refine aa rfl (br (c := true) (ck rfl rfl rfl) (by rfl)) ?_
 refine yN ?_
 dsimp only [St.put]
 refine K5 _ ?_
 refine yS fun _ K6 => ?_
 refine ak rfl (fun _ => ?_) (fun h => by cases h)
 refine aq ?_
 refine K6 _ ?_
 refine yS fun _ K7 => ?_
 refine bg ?_
 refine yS fun _ K8 => ?_
 refine yR ?_
 try dsimp only [St.put]
 refine aa rfl (b8 (k := 0) rfl rfl rfl (by first | rfl | omega) (cg hx) (Enc.len _)) ?_
 refine yE rfl rfl rfl ?_
 try dsimp only [St.put]
 refine ae rfl (bj rfl ?_)
 try dsimp only [St.put]
 refine ae rfl (ax rfl rfl rfl zG rfl rfl (by rfl) ?_)
 refine yN ?_
 dsimp only [St.put]
 refine K8 _ ?_
 refine cw (i := 7) rfl zG (by first | exact List.cons_ne_nil _ _ | (simp; done) | (simp [putAt]; done)) ?_
 dsimp only
 refine yS fun _ K9 => ?_
 refine yR ?_
 try dsimp only [St.put]
 refine ba rfl (bk rfl rfl rfl) ?_
 refine yE rfl rfl rfl ?_
 try dsimp only [St.put]
 refine ae rfl (dq rfl rfl rfl (ko t e hl) zG ?_)
 refine yA rfl rfl ?_
 refine yN ?_
 dsimp only [St.put]
 refine K9 _ ?_
 refine yS fun _ K10 => ?_
 refine yR ?_
 refine yM rfl rfl ?_
 refine aa rfl (br (c := false) (cz rfl rfl rfl) (j8 h0)) ?_
 refine yN ?_
 dsimp only [St.put]
 refine K10 _ ?_
 refine ak rfl (fun h => by cases h) (fun _ => ?_)
 refine aq ?_
 refine K7 _ ?_
 refine yR ?_
 refine aa rfl (ca rfl rfl rfl (by omega)) ?_
 refine yM rfl rfl ?_
 refine yN ?_
 dsimp only [St.put]
 refine hKR4_0 _ ?_
 refine gz fun KR4_1 hKR4_1 => ?_
 refine yS fun _ K11 => ?_
 refine yR ?_
 refine aa rfl (br (c := false) (ck rfl rfl rfl) (by rfl)) ?_
 refine yN ?_
 dsimp only [St.put]
 refine K11 _ ?_
 refine yS fun _ K12 => ?_
 refine ak rfl (fun h => by cases h) (fun _ => ?_)
 refine dl ?_
 refine K2 _ ?_
 refine yS fun _ K13 => ?_
 refine yR ?_
 refine yA rfl rfl ?_
 refine yN ?_
 dsimp only [St.put]
 refine K13 _ ?_
 refine yS fun _ K14 => ?_
 refine yS fun _ K15 => ?_
 refine yR ?_
 refine yM rfl rfl ?_
 refine aa rfl (bx rfl rfl (List.length_map _)) ?_
 refine yM rfl rfl ?_
 refine yN ?_
 dsimp only [St.put]
 refine K15 _ ?_
 refine bg ?_
 refine lk 2 ?_
 refine gz fun KR16_0 hKR16_0 => ?_
 refine yS fun _ K17 => ?_
 refine yR ?_
 refine aa rfl (br (c := true) (ck rfl rfl rfl) (by rfl)) ?_
 refine yN ?_
 dsimp only [St.put]
 refine K17 _ ?_
 refine yS fun _ K18 => ?_
 refine ak rfl (fun _ => ?_) (fun h => by cases h)
 refine aq ?_
 refine K18 _ ?_
 refine yS fun _ K19 => ?_
 refine bg ?_
 refine yS fun _ K20 => ?_
 refine yR ?_
 try dsimp only [St.put]
 refine aa rfl (b8 (k := 0) rfl rfl rfl (by first | rfl | omega) (cg hx) (Enc.len _)) ?_
 refine yE rfl rfl rfl ?_
 try dsimp only [St.put]
 refine ae rfl (bj rfl ?_)
 try dsimp only [St.put]
 refine ae rfl (ax rfl rfl rfl zG rfl rfl (by rfl) ?_)
 refine yN ?_
 dsimp only [St.put]
 refine K20 _ ?_
 refine cw (i := 11) rfl zG (by first | exact List.cons_ne_nil _ _ | (simp; done) | (simp [putAt]; done)) ?_
 dsimp only
 refine yS fun _ K21 => ?_
 refine yR ?_
 try dsimp only [St.put]
 refine ba rfl (bk rfl rfl rfl) ?_
 refine yE rfl rfl rfl ?_
 try dsimp only [St.put]
 refine ae rfl (iy rfl rfl rfl (nd t e hl12 he _ _) (fun y => ?_))
 refine yM rfl rfl ?_
 refine yX rfl rfl rfl rfl ?_
 refine yX rfl rfl rfl rfl ?_
 refine yX rfl rfl rfl rfl ?_
 refine yX rfl rfl rfl rfl ?_
 refine yA rfl rfl ?_
 refine yA rfl rfl ?_
 refine yA rfl rfl ?_
 refine yA rfl rfl ?_
 refine yN ?_
 dsimp only [St.put]
 refine K21 _ ?_
 refine yS fun _ K22 => ?_
 refine yS fun _ K23 => ?_
 refine yR ?_
 refine aa rfl (br (c := true) (i2 rfl (by constructor)) hf) ?_
 refine yN ?_
 dsimp only [St.put]
 refine K23 _ ?_
 refine ak rfl (fun _ => ?_) (fun h => by cases h)
 refine yS fun _ K24 => ?_
 refine yR ?_
 refine yA rfl rfl ?_
 refine yA rfl rfl ?_
 refine yN ?_
 dsimp only [St.put]
 refine K24 _ ?_
 refine aj ?_
 refine ix rfl (by constructor) (by constructor) zN zS ?_ ?_
 ·rfl
 rfl
theorem rq (t : af) (e : aw) (hl : e.ss.length ≤ 20) (h : cb t e ≠ 0) :
  c8 cr Tryz.prog 52 [b7 t, lst [e]] (.tup [.list [] .nil, .v (.int .i64 (cb t e))]) := by
 rcases wu h with ⟨h0, h1⟩ | ⟨h0, h1, h2⟩
 ·rw [h1]; exact uhs t e hl h0
 rw [h2]; exact uhr t e hl h0 h1
/-! ### Plain editions -/
theorem upz (t : af) (e : aw) (f : L2 → Option L2) (n m V : Nat) (ht : bw t = true) (hf : ∀ p v, f p = some v → -100000 ≤ v.2 ∧ v.2 ≤ 100000) (G : Nat → Option GObj) (nx : Nat) (hn : n < nx) (hm : m < nx) (hG : G n = some (bl Tryz.prog 95 V (a8 f))) :
  PC Tryz.prog 56 [.elem (gg t e n m)] G nx fun r G' nx' => ∃ y : Nat, r = .agg [.v (.int .i64 e.id), .own (nx + 1 + 1) (fy f (dn t)).length (fy f (dn t)).length] ∧ G' = ah G (nx + 1 + 1) (.arr (fy f (dn t)).length y 28 5 (fy f (dn t)).length (bt (fy f (dn t)))) ∧ nx' = nx + 1 + 1 + 1 := by
 refine qg (fun (y : Nat) => ah G (nx + 1 + 1) (.arr (fy f (dn t)).length y 28 5 (fy f (dn t)).length (bt (fy f (dn t))))) (nx + 1 + 1 + 1) Tryz.func56 rfl (.agg (am .v (am (.own (show nx + 1 + 1 < nx + 1 + 1 + 1 by omega)) bn))) zN (fun hlt y => zH) ?_
 simp only [Tryz.ntmps56, List.length_cons, List.length_nil, Nat.reduceAdd, Nat.reduceSub]
 refine bf fun hlt => ?_
 dsimp only at hlt
 refine yS fun _ K1 => ?_
 refine yR ?_
 try dsimp only [St.put]
 refine yB rfl rfl rfl ?_
 try dsimp only [St.put]
 refine ae rfl (bj rfl ?_)
 refine yN ?_
 dsimp only [St.put]
 refine K1 _ ?_
 refine yS fun _ K2 => ?_
 refine yR ?_
 refine yL rfl rfl rfl ?_
 refine aa rfl (ie rfl rfl) ?_
 refine yF rfl rfl rfl rfl ?_
 refine yF rfl rfl rfl rfl ?_
 refine yL rfl rfl rfl ?_
 refine aa rfl (dg rfl rfl) ?_
 try dsimp only [St.put]
 refine ae rfl (bj rfl ?_)
 try dsimp only [St.put]
 refine ae rfl (ax rfl rfl rfl zG rfl rfl (by rfl) ?_)
 refine yN ?_
 dsimp only [St.put]
 refine K2 _ ?_
 refine ll (nx + 1) 1 _ _ 28 5 zG rfl (by decide) ?_
 dsimp only [List.set_cons_zero, List.set_cons_succ]
 refine yS fun _ K3 => ?_
 refine yS fun _ K4 => ?_
 refine yR ?_
 refine yL rfl rfl rfl ?_
 try dsimp only [St.put]
 refine ae rfl (fg rfl rfl rfl (x6 t e _ _ _ _ (by dsimp only [St.put]; omega) (by dsimp only [St.put]; omega)) ?_)
 refine yN ?_
 dsimp only [St.put]
 refine K4 _ ?_
 refine bg ?_
 refine di 19 ?_
 simp only [cx, bi, Nat.reduceAdd, List.getD_cons_zero, List.getD_cons_succ, List.getD_nil, dc, Nat.reduceBEq, cond_true, cond_false]
 refine dv ((ah (ah (ah G nx (.box 0 [.v (.int .i64 0), .list [] .nil])) (nx + 1) (.box ((([] : List StretchD)).length + 1) [.v (.int .i64 e.id), .own (nx + 1 + 1) (([] : List StretchD)).length (([] : List StretchD)).length])) (nx + 1 + 1) (.arr (([] : List StretchD)).length 0 28 5 (([] : List StretchD)).length (bt (([] : List StretchD)))))) zX ?_
 dsimp only
 refine zf (clL) [19, 20] (fun zs => (ah (ah (ah G nx (.box 0 [.v (.int .i64 0), .list [] .nil])) (nx + 1) (.box (((kr f (zs.map (·.1))).1).length + 1) [.v (.int .i64 e.id), .own (nx + 1 + 1) ((kr f (zs.map (·.1))).1).length ((kr f (zs.map (·.1))).1).length])) (nx + 1 + 1) (.arr ((kr f (zs.map (·.1))).1).length ((kr f (zs.map (·.1))).2) 28 5 ((kr f (zs.map (·.1))).1).length (bt ((kr f (zs.map (·.1))).1))))) (fun _ _ (_ : Unit) => False) (fun _ => fun _ => none) (fun x => [(20, .v x.2), (19, .agg [.v (.int .i64 x.1.1), .v (.int .i64 x.1.2)])]) (x7 t e n m) rfl rfl (fun _ => rfl) (fun xs hX => hX.cl) ?_ ?_ ?_ (fun _ _ _ h => h.elim) (fun xs hX lr pre x hx hlen hpre => ?_) (fun _ _ _ _ _ _ h => h.elim) (fun xs hX => ?_)
 ·intro pre x
  rfl
 ·exact zX
 ·intro zs
  exact zH
 ·have hxl : x.1 ∈ dn t := hX.fst ▸ List.mem_map_of_mem hx
  have hxb := uck ht hxl
  have hlen' := pf ht
  rw [← hX.fst, List.length_map] at hlen'
  have hol := ua9 f (pre.map (·.1))
  rw [List.length_map] at hol
  have hob := ujh hf (l := pre.map (·.1)) fun p hp => by
   obtain ⟨z, hz, rfl⟩ := List.mem_map.1 hp
   have := uck ht (show z.1 ∈ dn t from hX.fst ▸ List.mem_map_of_mem (hpre z hz))
   omega
  rw [← uba] at hol hob
  obtain ⟨⟨out, w⟩, hout⟩ : ∃ o, kr f (pre.map (·.1)) = o := ⟨_, rfl⟩
  rw [hout] at hol hob ⊢
  dsimp only at hol hob ⊢
  have hsnoc : kr f ((pre ++ [x]).map (·.1)) = kq f (out, w) x.1 := by rw [List.map_append, List.map_cons, List.map_nil, uji, hout]
  refine yR ?_
  try dsimp only [St.put]
  refine ae rfl (bj rfl ?_)
  try dsimp only [St.put]
  refine ae rfl (ax rfl rfl rfl zG rfl rfl (by rfl) ?_)
  refine yN ?_
  dsimp only [St.put]
  show AW _ _ _ _ _
  refine cw (i := 4) rfl zG (by first | exact List.cons_ne_nil _ _ | (simp; done) | (simp [putAt]; done)) ?_
  dsimp only
  refine bg ?_
  refine yS fun _ K5 => ?_
  obtain ⟨v1, hv1⟩ : ∃ v : L2, (a8 f x.1).getD (ia (.agg #[.int .i64 0, .int .i64 0])) = .agg [.v (.int .i64 v.1), .v (.int .i64 v.2)] := oh _ _
  obtain ⟨b1, hb1⟩ : ∃ b, (a8 f x.1).isSome = b := ⟨_, rfl⟩
  refine gh [(0, none), (1, none), (2, none), (3, none), (4, none), (5, none), (6, none), (7, none), (8, none), (9, none), (10, none), (11, none)] (fun i => [10].contains i) (fun i => [9, 10].contains i) (fun i => [1, 2, 6, 7, 8, 11].contains i) [n] (by kernel_rfl) (by kernel_rfl) ?_
  try dsimp only [St.put]
  refine az rfl rfl rfl rfl (bq rfl rfl) ?_
  refine ai rfl rfl rfl rfl (ie rfl rfl) ?_
  refine ai rfl rfl rfl rfl (cd rfl rfl rfl) ?_
  try dsimp only [St.put]
  refine az rfl rfl rfl rfl (bq rfl rfl) ?_
  try dsimp only [St.put]
  refine az rfl rfl rfl rfl (bk rfl rfl rfl) ?_
  try dsimp only [St.put]
  refine az rfl rfl rfl rfl (n3 x.1 rfl rfl zG (by simp) rfl hv1 hb1) ?_
  refine xM rfl rfl rfl rfl rfl ?_
  refine ai rfl rfl rfl rfl (d9 rfl rfl rfl) ?_
  refine ai rfl rfl rfl rfl (d9 rfl rfl rfl) ?_
  refine il ?_
  try dsimp only [St.put]
  refine jp rfl rfl rfl (bj rfl ⟨zD, ?_⟩)
  try dsimp only [St.put]
  refine gl rfl rfl rfl rfl (ax rfl rfl rfl zG rfl rfl (by rfl) ?_)
  refine jl rfl rfl rfl rfl (eh rfl (by constructor)) ?_
  refine ij ?_
  dsimp only [St.put]
  refine K5 _ ?_
  refine cw (i := 5) rfl zG (by first | exact List.cons_ne_nil _ _ | (simp; done) | (simp [putAt]; done)) ?_
  dsimp only
  refine yS fun _ K6 => ?_
  refine yS fun _ K7 => ?_
  refine yR ?_
  refine yM rfl rfl ?_
  refine aa rfl (c9 rfl rfl) ?_
  refine yN ?_
  dsimp only [St.put]
  refine K7 _ ?_
  refine ak rfl (fun hc => ?_) (fun hc => ?_)
  ·have hno : f x.1 = none := by
    have : b1 = false := by simpa using hc
    rw [this] at hb1
    exact capp_none.1 (by simpa using hb1)
   refine dl ?_
   unfold m5 mr
   dsimp only
   rw [hsnoc]
   first
   | (rw [tj hno]
      exact zX)
   | (rw [hnew]
      simp only [List.length_append]
      exact zX)
   | (rw [hon]
      simp only [List.length_set]
      exact zX)
  have hys : f x.1 = some v1 := by
   have : b1 = true := by simpa using hc
   rw [this] at hb1
   obtain ⟨v, hv⟩ : ∃ v, f x.1 = some v := by
    cases h : f x.1 with
    | none => simp [a8, h] at hb1
    | some v => exact ⟨v, rfl⟩
   unfold a8 at hv1
   rw [hv] at hv1
   simp only [Option.map_some, Option.getD_some, o9, C.agg.injEq, List.cons.injEq, C.v.injEq, Value.int.injEq, true_and, and_true] at hv1
   rw [hv, Prod.ext hv1.1 hv1.2]
  have hvb := hf _ _ hys
  refine aq ?_
  refine K6 _ ?_
  refine yS fun _ K8 => ?_
  refine yR ?_
  try dsimp only [St.put]
  refine aa rfl (em (k := 0) rfl rfl rfl (by first | exact rfl | omega) (by first | decide | omega) rfl) ?_
  refine yL rfl rfl rfl ?_
  try dsimp only [St.put]
  refine aa rfl (em (k := 1) rfl rfl rfl (by first | exact rfl | omega) (by first | decide | omega) rfl) ?_
  refine yL rfl rfl rfl ?_
  try dsimp only [St.put]
  refine aa rfl (em (k := 1) rfl rfl rfl (by first | exact rfl | omega) (by first | decide | omega) rfl) ?_
  refine yL rfl rfl rfl ?_
  refine aa rfl (ca rfl rfl rfl (by omega)) ?_
  try dsimp only [St.put]
  refine aa rfl (em (k := 0) rfl rfl rfl (by first | exact rfl | omega) (by first | decide | omega) rfl) ?_
  refine yL rfl rfl rfl ?_
  try dsimp only [St.put]
  refine aa rfl (em (k := 1) rfl rfl rfl (by first | exact rfl | omega) (by first | decide | omega) rfl) ?_
  refine yL rfl rfl rfl ?_
  refine aa rfl (dg rfl rfl) ?_
  try dsimp only [St.put]
  refine ae rfl (bj rfl ?_)
  try dsimp only [St.put]
  refine ae rfl (ax rfl rfl rfl zG rfl rfl (by rfl) ?_)
  refine yN ?_
  dsimp only [St.put]
  refine K8 _ ?_
  refine cw (i := 7) rfl zG (by first | exact List.cons_ne_nil _ _ | (simp; done) | (simp [putAt]; done)) ?_
  dsimp only
  refine yS fun _ K9 => ?_
  refine yS fun _ K10 => ?_
  refine yR ?_
  refine aa rfl (ip rfl rfl) ?_
  try dsimp only [St.put]
  refine ba rfl (i7 rfl rfl zG trivial (by first | rfl | assumption)) ?_
  refine aa rfl (qk rfl rfl) ?_
  refine aa rfl (g9 rfl rfl rfl (by omega)) ?_
  refine yA rfl rfl ?_
  refine yN ?_
  dsimp only [St.put]
  refine K10 _ ?_
  refine yS fun _ K11 => ?_
  refine yR ?_
  refine yM rfl rfl ?_
  refine aa rfl (ni rfl rfl rfl) ?_
  refine yN ?_
  dsimp only [St.put]
  refine K11 _ ?_
  refine ak rfl (fun hc => ?_) (fun hc => ?_)
  ·replace hc := of_decide_eq_true hc
   obtain ⟨s, hz⟩ : ∃ x, out[out.length - 1]? = some x := dw (by omega)
   obtain ⟨c1, c2, c3⟩ := hob s (e8 hz)
   have hsb := hob s (e8 hz)
   refine yS fun _ K12 => ?_
   refine yR ?_
   refine aa rfl (ip rfl rfl) ?_
   try dsimp only [St.put]
   refine ba rfl (i7 rfl rfl zG trivial (by first | rfl | assumption)) ?_
   refine yM rfl rfl ?_
   try dsimp only [St.put]
   refine aa rfl (ql (k := (out.length - 1)) rfl rfl zG rfl (by first | exact rfl | omega) (by first | omega | (simp; omega))) ?_
   try dsimp only [St.put]
   refine ba rfl (uan (α := StretchD) (k := out.length - 1) (y := s) rfl rfl zG trivial rfl hz rfl (by decide)) ?_
   try dsimp only [St.put]
   refine ae rfl (bj rfl ?_)
   try dsimp only [St.put]
   refine ae rfl (ax rfl rfl rfl zG rfl rfl (by rfl) ?_)
   refine yN ?_
   dsimp only [St.put]
   refine K12 _ ?_
   refine yS fun _ K13 => ?_
   refine yR ?_
   refine aa rfl (ip rfl rfl) ?_
   try dsimp only [St.put]
   refine ba rfl (i7 rfl rfl zG trivial (by first | rfl | assumption)) ?_
   refine aa rfl (ca rfl rfl rfl (by omega)) ?_
   refine aa rfl (ip rfl rfl) ?_
   try dsimp only [St.put]
   refine ae rfl (rd rfl rfl rfl zG (by constructor) rfl (by first | (simp; done) | (simp; omega) | exact Nat.lt_of_lt_of_eq (by decide) (Enc.len _).symm) ?_)
   refine yN ?_
   dsimp only [St.put]
   refine K13 _ ?_
   refine yS fun _ K14 => ?_
   refine yR ?_
   refine yF rfl rfl rfl rfl ?_
   refine yL rfl rfl rfl ?_
   refine aa rfl (ip rfl rfl) ?_
   try dsimp only [St.put]
   refine ba rfl (i7 rfl rfl zG trivial (by first | rfl | assumption)) ?_
   refine aa rfl (g9 rfl rfl rfl (by omega)) ?_
   refine yA rfl rfl ?_
   refine yN ?_
   dsimp only [St.put]
   refine K14 _ ?_
   refine yS fun _ K15 => ?_
   refine yR ?_
   try dsimp only [St.put]
   refine ba rfl (i6 rfl rfl zG trivial (by rfl)) ?_
   refine yF rfl rfl rfl rfl ?_
   refine yL rfl rfl rfl ?_
   refine aa rfl (ip rfl rfl) ?_
   try dsimp only [St.put]
   refine ba rfl (i7 rfl rfl zG trivial (by first | rfl | assumption)) ?_
   refine yF rfl rfl rfl rfl ?_
   refine yL rfl rfl rfl ?_
   refine yF rfl rfl rfl rfl ?_
   refine yL rfl rfl rfl ?_
   refine yF rfl rfl rfl rfl ?_
   refine yL rfl rfl rfl ?_
   refine yM rfl rfl ?_
   refine aa rfl (g9 rfl rfl rfl (by omega)) ?_
   refine aa rfl (ca rfl rfl rfl (by omega)) ?_
   refine aa rfl (dg rfl rfl) ?_
   refine aa rfl (nj (x := { s with tt := s.tt + 1 }) (y := ⟨x.1.1, s.fr, x.1.2 + 1, v1.1, v1.2 - (x.1.2 + 1 - s.fr) + 1⟩) rfl rfl rfl) ?_
   refine yN ?_
   dsimp only [St.put]
   refine K15 _ ?_
   refine ak rfl (fun hc => ?_) (fun hc => ?_)
   ·have hg : l4 s x.1 v1 = true := (udc hsb).symm.trans hc
    have hon := uha (w := w) hys hz hg
    refine yS fun _ K16 => ?_
    refine yR ?_
    refine aa rfl (ip rfl rfl) ?_
    try dsimp only [St.put]
    refine ba rfl (i7 rfl rfl zG trivial (by first | rfl | assumption)) ?_
    refine yM rfl rfl ?_
    try dsimp only [St.put]
    refine ba rfl (i6 rfl rfl zG trivial (by rfl)) ?_
    try dsimp only [St.put]
    refine aa rfl (ql (k := (out.length - 1)) rfl rfl zG rfl (by first | exact rfl | omega) (by first | omega | (simp; omega))) ?_
    try dsimp only [St.put]
    refine ae rfl (unr (k := out.length - 1) (z := s) (z' := { s with tt := s.tt + 1 }) rfl rfl rfl zG rfl rfl hz rfl (by decide) ?_)
    refine yN ?_
    dsimp only [St.put]
    refine K16 _ ?_
    refine dl ?_
    unfold m5 mr
    dsimp only
    rw [hsnoc]
    first
    | (rw [tj hno]
       exact zX)
    | (rw [hnew]
       simp only [List.length_append]
       exact zX)
    | (rw [hon]
       simp only [List.length_set]
       exact zX)
   have hg : l4 s x.1 v1 = false := (udc hsb).symm.trans hc
   have hnew := uhc (w := w) hys hz hg
   refine aq ?_
   refine K9 _ ?_
   refine yR ?_
   refine aa rfl (ip rfl rfl) ?_
   try dsimp only [St.put]
   refine ba rfl (i7 rfl rfl zG trivial (by first | rfl | assumption)) ?_
   try dsimp only [St.put]
   refine ba rfl (bk rfl rfl rfl) ?_
   try dsimp only [St.put]
   refine ae rfl (cq rfl rfl rfl (by decide) (by decide) zR (by decide) ?_)
   try dsimp only [St.put]
   refine ae rfl (re (⟨x.1.1, x.1.2, x.1.2 + 1, v1.1, v1.2⟩ : StretchD) rfl rfl zG rfl rfl rfl rfl zA ?_ zA)
   refine aa rfl (ip rfl rfl) ?_
   try dsimp only [St.put]
   refine ae rfl (rd rfl rfl rfl zG (by constructor) rfl (by first | (simp; done) | (simp; omega) | exact Nat.lt_of_lt_of_eq (by decide) (Enc.len _).symm) ?_)
   refine yN ?_
   dsimp only [St.put]
   unfold m5 mr
   dsimp only
   rw [hsnoc]
   first
   | (rw [tj hno]
      exact zX)
   | (rw [hnew]
      simp only [List.length_append]
      exact zX)
   | (rw [hon]
      simp only [List.length_set]
      exact zX)
  replace hc := of_decide_eq_false hc
  have hnew := uhb (w := w) hys (List.eq_nil_of_length_eq_zero (show out.length = 0 by omega))
  refine aq ?_
  refine K9 _ ?_
  refine yR ?_
  refine aa rfl (ip rfl rfl) ?_
  try dsimp only [St.put]
  refine ba rfl (i7 rfl rfl zG trivial (by first | rfl | assumption)) ?_
  try dsimp only [St.put]
  refine ba rfl (bk rfl rfl rfl) ?_
  try dsimp only [St.put]
  refine ae rfl (cq rfl rfl rfl (by decide) (by decide) zR (by decide) ?_)
  try dsimp only [St.put]
  refine ae rfl (re (⟨x.1.1, x.1.2, x.1.2 + 1, v1.1, v1.2⟩ : StretchD) rfl rfl zG rfl rfl rfl rfl zA ?_ zA)
  refine aa rfl (ip rfl rfl) ?_
  try dsimp only [St.put]
  refine ae rfl (rd rfl rfl rfl zG (by constructor) rfl (by first | (simp; done) | (simp; omega) | exact Nat.lt_of_lt_of_eq (by decide) (Enc.len _).symm) ?_)
  refine yN ?_
  dsimp only [St.put]
  unfold m5 mr
  dsimp only
  rw [hsnoc]
  first
  | (rw [tj hno]
     exact zX)
  | (rw [hnew]
     simp only [List.length_append]
     exact zX)
  | (rw [hon]
     simp only [List.length_set]
     exact zX)
 dsimp only
 rw [hX.fst, uba]
 refine K3 _ ?_
 refine yS fun _ K17 => ?_
 refine yR ?_
 try dsimp only [St.put]
 refine ba rfl (i6 rfl rfl zG trivial (by rfl)) ?_
 try dsimp only [St.put]
 refine ae rfl (ax rfl rfl rfl zG rfl rfl (by rfl) ?_)
 refine yN ?_
 dsimp only [St.put]
 refine K17 _ ?_
 refine aj ?_
 refine ⟨(kr f (dn t)).2, ?_⟩
 refine jw rfl (dr rfl zG (by rfl) (by first | exact List.cons_ne_nil _ _ | (simp; done) | (simp [putAt]; done)) rfl) zN zX ?_
 exact zW
end Go.Proofs.YtjjklfgpffgnfabGreatDoor
