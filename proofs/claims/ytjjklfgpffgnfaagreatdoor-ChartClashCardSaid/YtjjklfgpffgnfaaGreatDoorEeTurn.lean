/-
 Contracts of the program's functions of charts: two sound editions; references of one in the other one.
-/
import Derived.Test.YtjjklfgpffgnfaaGreatDoorEdLead
namespace Go.Proofs.YtjjklfgpffgnfaaGreatDoor
set_option maxRecDepth 10000
open Go.RowKit Go.AB
open Go.AB.Enc (cells)
open Go.PB (bv ai PlaceD cy c6 cz)
theorem ucy (t : ai) (e : av) {n m k : Nat} (hn : n < k) (hm : m < k) : (C.elem (gi t e n m)).low k :=
 .elem (ar .v (ar (bh _ _) (ar (bh _ _) (ar (.map hn) (ar (.map hm) bl)))))
theorem ucx {t : ai} {e f : av} (nx : Nat) : (C.list [[(.elem (gi t e (nx + 1 + 1 + 1 + 1) (nx + 1 + 1 + 1 + 1 + 1)))], [(.elem (gi t f (nx + 1 + 1 + 1 + 1 + 1 + 1 + 1) (nx + 1 + 1 + 1 + 1 + 1 + 1 + 1 + 1)))]] .none).low ((nx + 1 + 1 + 1 + 1 + 1 + 1 + 1 + 1 + 1)) :=
 .list (by
  intro r hr c hc
  simp only [List.mem_cons, List.not_mem_nil, or_false] at hr
  rcases hr with rfl | rfl <;> (rw [List.mem_singleton] at hc; subst hc; exact ucy _ _ (by omega) (by omega))) (by simp)
theorem ud5 {es fs : List StretchD} {G : Nat → Option GObj} {nx : Nat} (y : (Nat × Nat) × (Nat × Nat)) : ∀ n o, (ak (ak (ak (ak G (nx + 1 + 1 + 1 + 1) (bo Tryz.prog 115 y.1.1 (az (ax es)))) (nx + 1 + 1 + 1 + 1 + 1) (bo Tryz.prog 115 y.1.2 (az (cn es)))) (nx + 1 + 1 + 1 + 1 + 1 + 1 + 1) (bo Tryz.prog 115 y.2.1 (az (ax fs)))) (nx + 1 + 1 + 1 + 1 + 1 + 1 + 1 + 1) (bo Tryz.prog 115 y.2.2 (az (cn fs)))) n = some o → G n = some o ∨ (n < (nx + 1 + 1 + 1 + 1 + 1 + 1 + 1 + 1 + 1) ∧ o.low ((nx + 1 + 1 + 1 + 1 + 1 + 1 + 1 + 1 + 1))) :=
 gt (gt (gt (gt (ie fun n o h => h) (by omega) (gg (f9 _ _))) (by omega) (gg (f9 _ _))) (by omega) (gg (f9 _ _))) (by omega) (gg (f9 _ _))
theorem ut (t : ai) (e f : av) (hl : e.ss.length ≤ 20) (hlf : f.ss.length ≤ 20) (h : bz t e = 0) (hh : bz t f = 0) (G : Nat → Option GObj) (nx : Nat) (hF : G 0 = some cv) :
  PC Tryz.prog 63 [b8 t, lst [e, f]] G nx fun r G' nx' => ∃ y : (Nat × Nat) × (Nat × Nat), r = .tup [.list [[(.elem (gi t e (nx + 1 + 1 + 1 + 1) (nx + 1 + 1 + 1 + 1 + 1)))], [(.elem (gi t f (nx + 1 + 1 + 1 + 1 + 1 + 1 + 1) (nx + 1 + 1 + 1 + 1 + 1 + 1 + 1 + 1)))]] .none, .v (.int .i64 0)] ∧ G' = (ak (ak (ak (ak G (nx + 1 + 1 + 1 + 1) (bo Tryz.prog 115 y.1.1 (az (ax e.ss)))) (nx + 1 + 1 + 1 + 1 + 1) (bo Tryz.prog 115 y.1.2 (az (cn e.ss)))) (nx + 1 + 1 + 1 + 1 + 1 + 1 + 1) (bo Tryz.prog 115 y.2.1 (az (ax f.ss)))) (nx + 1 + 1 + 1 + 1 + 1 + 1 + 1 + 1) (bo Tryz.prog 115 y.2.2 (az (cn f.ss)))) ∧ nx' = (nx + 1 + 1 + 1 + 1 + 1 + 1 + 1 + 1 + 1) := by
 refine pu (fun (y : (Nat × Nat) × (Nat × Nat)) => (ak (ak (ak (ak G (nx + 1 + 1 + 1 + 1) (bo Tryz.prog 115 y.1.1 (az (ax e.ss)))) (nx + 1 + 1 + 1 + 1 + 1) (bo Tryz.prog 115 y.1.2 (az (cn e.ss)))) (nx + 1 + 1 + 1 + 1 + 1 + 1 + 1) (bo Tryz.prog 115 y.2.1 (az (ax f.ss)))) (nx + 1 + 1 + 1 + 1 + 1 + 1 + 1 + 1) (bo Tryz.prog 115 y.2.2 (az (cn f.ss))))) ((nx + 1 + 1 + 1 + 1 + 1 + 1 + 1 + 1 + 1)) Tryz.func63 rfl (.tup (ar (ucx _) (ar .v bl))) zN (fun hlt y => (by (repeat' (refine gt ?_ (by (try dsimp only); omega) ?_)); all_goals (first | exact ie zS | (repeat' (first | exact trivial | refine ⟨?_, ?_⟩ | exact .v | exact .any | refine .elem ?_ | exact bh _ _ | exact e9 _ _ | exact dq _ _ | exact ff _ (by (try dsimp only); omega) | exact .box (by (try dsimp only); omega) | exact ed | exact bl | exact gg (f9 _ _) | refine fa ?_ ?_ | exact .arr (by (try dsimp only); omega) | exact .own (by (try dsimp only); omega) | exact .map (by (try dsimp only); omega) | exact ez _ | refine ar ?_ ?_ | exact bh _ _))))) ?_
 simp only [Tryz.ntmps63, List.length_cons, List.length_nil, Nat.reduceAdd, Nat.reduceSub]
 refine bi fun hlt => ?_
 dsimp only at hlt
 have hnx := hlt 0 _ hF
 obtain ⟨h0, hf⟩ := lg h
 obtain ⟨ht, hl12, he⟩ := kq h0
 obtain ⟨hh0, hhf⟩ := lg hh
 obtain ⟨_, hhl12, hhe⟩ := kq hh0
 have hx : ([e, f] : List av)[0]? = some e := rfl
 have hy : ([e, f] : List av)[1]? = some f := rfl
 refine yS fun _ K1 => ?_
 refine yR ?_
 try dsimp only [St.put]
 refine yB rfl rfl rfl ?_
 refine yA rfl rfl ?_
 refine yA rfl rfl ?_
 refine yN ?_
 dsimp only [St.put]
 refine K1 _ ?_
 refine yS fun _ K2 => ?_
 refine yS fun _ K3 => ?_
 refine yR ?_
 refine yM rfl rfl ?_
 refine aa rfl (ck rfl rfl (List.length_map _)) ?_
 refine yM rfl rfl ?_
 refine yN ?_
 dsimp only [St.put]
 refine K3 _ ?_
 refine bn ?_
 refine k9 3 ?_
 refine g8 fun KR4_0 hKR4_0 => ?_
 refine yS fun _ K5 => ?_
 refine yR ?_
 refine aa rfl (bt (c := true) (cr rfl rfl rfl) (by rfl)) ?_
 refine yN ?_
 dsimp only [St.put]
 refine K5 _ ?_
 refine yS fun _ K6 => ?_
 refine al rfl (fun _ => ?_) (fun h => by cases h)
 refine aw ?_
 refine K6 _ ?_
 refine yS fun _ K7 => ?_
 refine bn ?_
 refine yS fun _ K8 => ?_
 refine yR ?_
 try dsimp only [St.put]
 refine aa rfl (b7 (k := 0) rfl rfl rfl (by first | rfl | omega) (cm hx) (Enc.len _)) ?_
 refine yE rfl rfl rfl ?_
 try dsimp only [St.put]
 refine ae rfl (bp rfl ?_)
 try dsimp only [St.put]
 refine ae rfl (ay rfl rfl rfl zG rfl rfl (by rfl) ?_)
 refine yN ?_
 dsimp only [St.put]
 refine K8 _ ?_
 refine dg (i := 7) rfl zG (by first | exact List.cons_ne_nil _ _ | (simp; done) | (simp [putAt]; done)) ?_
 dsimp only
 refine yS fun _ K9 => ?_
 refine yR ?_
 try dsimp only [St.put]
 refine af rfl (aq rfl rfl rfl) ?_
 refine yE rfl rfl rfl ?_
 try dsimp only [St.put]
 refine ae rfl (eb rfl rfl rfl (kr t e hl) zG ?_)
 refine yA rfl rfl ?_
 refine yN ?_
 dsimp only [St.put]
 refine K9 _ ?_
 refine yS fun _ K10 => ?_
 refine yR ?_
 refine yM rfl rfl ?_
 refine aa rfl (bt (c := false) (dt rfl rfl rfl) (mq h0)) ?_
 refine yN ?_
 dsimp only [St.put]
 refine K10 _ ?_
 refine al rfl (fun h => by cases h) (fun _ => ?_)
 refine aw ?_
 refine K7 _ ?_
 refine yR ?_
 refine aa rfl (bw rfl rfl rfl (by omega)) ?_
 refine yM rfl rfl ?_
 refine yN ?_
 dsimp only [St.put]
 refine hKR4_0 _ ?_
 refine g8 fun KR4_1 hKR4_1 => ?_
 refine yS fun _ K11 => ?_
 refine yR ?_
 refine aa rfl (bt (c := true) (cr rfl rfl rfl) (by rfl)) ?_
 refine yN ?_
 dsimp only [St.put]
 refine K11 _ ?_
 refine yS fun _ K12 => ?_
 refine al rfl (fun _ => ?_) (fun h => by cases h)
 refine aw ?_
 refine K12 _ ?_
 refine yS fun _ K13 => ?_
 refine bn ?_
 refine yS fun _ K14 => ?_
 refine yR ?_
 try dsimp only [St.put]
 refine aa rfl (b7 (k := 1) rfl rfl rfl (by first | rfl | omega) (cm hy) (Enc.len _)) ?_
 refine yE rfl rfl rfl ?_
 try dsimp only [St.put]
 refine ae rfl (bp rfl ?_)
 try dsimp only [St.put]
 refine ae rfl (ay rfl rfl rfl zG rfl rfl (by rfl) ?_)
 refine yN ?_
 dsimp only [St.put]
 refine K14 _ ?_
 refine dg (i := 7) rfl zG (by first | exact List.cons_ne_nil _ _ | (simp; done) | (simp [putAt]; done)) ?_
 dsimp only
 refine yS fun _ K15 => ?_
 refine yR ?_
 try dsimp only [St.put]
 refine af rfl (aq rfl rfl rfl) ?_
 refine yE rfl rfl rfl ?_
 try dsimp only [St.put]
 refine ae rfl (eb rfl rfl rfl (kr t f hlf) zG ?_)
 refine yA rfl rfl ?_
 refine yN ?_
 dsimp only [St.put]
 refine K15 _ ?_
 refine yS fun _ K16 => ?_
 refine yR ?_
 refine yM rfl rfl ?_
 refine aa rfl (bt (c := false) (dt rfl rfl rfl) (mq hh0)) ?_
 refine yN ?_
 dsimp only [St.put]
 refine K16 _ ?_
 refine al rfl (fun h => by cases h) (fun _ => ?_)
 refine aw ?_
 refine K13 _ ?_
 refine yR ?_
 refine aa rfl (bw rfl rfl rfl (by omega)) ?_
 refine yM rfl rfl ?_
 refine yN ?_
 dsimp only [St.put]
 refine hKR4_1 _ ?_
 refine g8 fun KR4_2 hKR4_2 => ?_
 refine yS fun _ K17 => ?_
 refine yR ?_
 refine aa rfl (bt (c := false) (cr rfl rfl rfl) (by rfl)) ?_
 refine yN ?_
 dsimp only [St.put]
 refine K17 _ ?_
 refine yS fun _ K18 => ?_
 refine al rfl (fun h => by cases h) (fun _ => ?_)
 refine ey ?_
 refine K2 _ ?_
 refine yS fun _ K19 => ?_
 refine yR ?_
 refine yA rfl rfl ?_
 refine yN ?_
 dsimp only [St.put]
 refine K19 _ ?_
 refine t8 9 94 1 rfl (by decide) ?_
 dsimp only [List.set_cons_zero, List.set_cons_succ]
 refine yS fun _ K20 => ?_
 refine yS fun _ K21 => ?_
 refine yR ?_
 refine yM rfl rfl ?_
 refine aa rfl (ck rfl rfl (List.length_map _)) ?_
 refine yM rfl rfl ?_
 refine yN ?_
 dsimp only [St.put]
 refine K21 _ ?_
 refine bn ?_
 refine k9 3 ?_
 refine g8 fun KR22_0 hKR22_0 => ?_
 refine yS fun _ K23 => ?_
 refine yR ?_
 refine aa rfl (bt (c := true) (cr rfl rfl rfl) (by rfl)) ?_
 refine yN ?_
 dsimp only [St.put]
 refine K23 _ ?_
 refine yS fun _ K24 => ?_
 refine al rfl (fun _ => ?_) (fun h => by cases h)
 refine aw ?_
 refine K24 _ ?_
 refine yS fun _ K25 => ?_
 refine bn ?_
 refine yS fun _ K26 => ?_
 refine yR ?_
 try dsimp only [St.put]
 refine aa rfl (b7 (k := 0) rfl rfl rfl (by first | rfl | omega) (cm hx) (Enc.len _)) ?_
 refine yE rfl rfl rfl ?_
 try dsimp only [St.put]
 refine ae rfl (bp rfl ?_)
 try dsimp only [St.put]
 refine ae rfl (ay rfl rfl rfl zG rfl rfl (by rfl) ?_)
 refine yN ?_
 dsimp only [St.put]
 refine K26 _ ?_
 refine dg (i := 11) rfl zG (by first | exact List.cons_ne_nil _ _ | (simp; done) | (simp [putAt]; done)) ?_
 dsimp only
 refine yS fun _ K27 => ?_
 refine yR ?_
 try dsimp only [St.put]
 refine af rfl (aq rfl rfl rfl) ?_
 refine yE rfl rfl rfl ?_
 try dsimp only [St.put]
 refine ae rfl (i0 rfl rfl rfl (m6 t e hl12 he _ _) (fun y => ?_))
 refine yM rfl rfl ?_
 refine yX rfl rfl rfl rfl ?_
 refine yX rfl rfl rfl rfl ?_
 refine yX rfl rfl rfl rfl ?_
 refine yX rfl rfl rfl rfl ?_
 refine yA rfl rfl ?_
 refine yA rfl rfl ?_
 refine yA rfl rfl ?_
 refine yA rfl rfl ?_
 refine yN ?_
 dsimp only [St.put]
 refine K27 _ ?_
 refine yS fun _ K28 => ?_
 refine yS fun _ K29 => ?_
 refine yR ?_
 refine aa rfl (bt (c := false) (a8 rfl (by constructor)) (by rw [hf]; rfl)) ?_
 refine yN ?_
 dsimp only [St.put]
 refine K29 _ ?_
 refine al rfl (fun h => by cases h) (fun _ => ?_)
 refine aw ?_
 refine K28 _ ?_
 refine yR ?_
 refine yM rfl rfl ?_
 refine yM rfl rfl ?_
 try dsimp only [St.put]
 refine ae rfl (c9 rfl rfl rfl (by decide) (by decide) zR (by decide) ?_)
 try dsimp only [St.put]
 refine ae rfl (tn rfl rfl zG rfl zR zR (by first | (show 1 * _ ≤ _; decide) | (show 2 * _ ≤ _; decide)) (by first | (show 1 ≤ _; decide) | (show 2 ≤ _; decide)) ?_)
 refine yA rfl rfl ?_
 refine yN ?_
 dsimp only [St.put]
 refine K25 _ ?_
 refine yR ?_
 refine aa rfl (bw rfl rfl rfl (by omega)) ?_
 refine yM rfl rfl ?_
 refine yN ?_
 dsimp only [St.put]
 refine hKR22_0 _ ?_
 refine g8 fun KR22_1 hKR22_1 => ?_
 refine yS fun _ K30 => ?_
 refine yR ?_
 refine aa rfl (bt (c := true) (cr rfl rfl rfl) (by rfl)) ?_
 refine yN ?_
 dsimp only [St.put]
 refine K30 _ ?_
 refine yS fun _ K31 => ?_
 refine al rfl (fun _ => ?_) (fun h => by cases h)
 refine aw ?_
 refine K31 _ ?_
 refine yS fun _ K32 => ?_
 refine bn ?_
 refine yS fun _ K33 => ?_
 refine yR ?_
 try dsimp only [St.put]
 refine aa rfl (b7 (k := 1) rfl rfl rfl (by first | rfl | omega) (cm hy) (Enc.len _)) ?_
 refine yE rfl rfl rfl ?_
 try dsimp only [St.put]
 refine ae rfl (bp rfl ?_)
 try dsimp only [St.put]
 refine ae rfl (ay rfl rfl rfl zG rfl rfl (by rfl) ?_)
 refine yN ?_
 dsimp only [St.put]
 refine K33 _ ?_
 refine dg (i := 11) rfl zG (by first | exact List.cons_ne_nil _ _ | (simp; done) | (simp [putAt]; done)) ?_
 dsimp only
 refine yS fun _ K34 => ?_
 refine yR ?_
 try dsimp only [St.put]
 refine af rfl (aq rfl rfl rfl) ?_
 refine yE rfl rfl rfl ?_
 try dsimp only [St.put]
 refine ae rfl (i0 rfl rfl rfl (m6 t f hhl12 hhe _ _) (fun z => ?_))
 refine yM rfl rfl ?_
 refine yX rfl rfl rfl rfl ?_
 refine yX rfl rfl rfl rfl ?_
 refine yX rfl rfl rfl rfl ?_
 refine yX rfl rfl rfl rfl ?_
 refine yA rfl rfl ?_
 refine yA rfl rfl ?_
 refine yA rfl rfl ?_
 refine yA rfl rfl ?_
 refine yN ?_
 dsimp only [St.put]
 refine K34 _ ?_
 refine yS fun _ K35 => ?_
 refine yS fun _ K36 => ?_
 refine yR ?_
 refine aa rfl (bt (c := false) (a8 rfl (by constructor)) (by rw [hhf]; rfl)) ?_
 refine yN ?_
 dsimp only [St.put]
 refine K36 _ ?_
 refine al rfl (fun h => by cases h) (fun _ => ?_)
 refine aw ?_
 refine K35 _ ?_
 refine yR ?_
 refine yM rfl rfl ?_
 refine yM rfl rfl ?_
 try dsimp only [St.put]
 refine ae rfl (c9 rfl rfl rfl (by decide) (by decide) zR (by decide) ?_)
 try dsimp only [St.put]
 refine ae rfl (tn rfl rfl zG rfl zR zR (by first | (show 1 * _ ≤ _; decide) | (show 2 * _ ≤ _; decide)) (by first | (show 1 ≤ _; decide) | (show 2 ≤ _; decide)) ?_)
 refine yA rfl rfl ?_
 refine yN ?_
 dsimp only [St.put]
 refine K32 _ ?_
 refine yR ?_
 refine aa rfl (bw rfl rfl rfl (by omega)) ?_
 refine yM rfl rfl ?_
 refine yN ?_
 dsimp only [St.put]
 refine hKR22_1 _ ?_
 refine g8 fun KR22_2 hKR22_2 => ?_
 refine yS fun _ K37 => ?_
 refine yR ?_
 refine aa rfl (bt (c := false) (cr rfl rfl rfl) (by rfl)) ?_
 refine yN ?_
 dsimp only [St.put]
 refine K37 _ ?_
 refine yS fun _ K38 => ?_
 refine al rfl (fun h => by cases h) (fun _ => ?_)
 refine ey ?_
 refine K20 _ ?_
 refine yS fun _ K39 => ?_
 refine yR ?_
 refine yM rfl rfl ?_
 refine yA rfl rfl ?_
 refine yA rfl rfl ?_
 refine yN ?_
 dsimp only [St.put]
 refine K39 _ ?_
 refine am ?_
 refine ⟨(y, z), ?_⟩
 refine dv rfl (cj (by constructor)) (cj (by constructor)) zN zX ?_ ?_
 ·exact zW
 exact zW
theorem ue8 (t : ai) (e f : av) (hl : e.ss.length ≤ 20) (h0 : cw t e ≠ 0) :
  da cv Tryz.prog 63 [b8 t, lst [e, f]] (.tup [.list [] .nil, .v (.int .i64 (cw t e))]) := by
 refine fy Tryz.func63 rfl (fun m => .tup (ar ed (ar .v bl))) fun G nx hF => ?_
 simp only [Tryz.ntmps63, List.length_cons, List.length_nil, Nat.reduceAdd, Nat.reduceSub]
 refine bi fun hlt => ?_
 dsimp only at hlt
 have hnx := hlt 0 _ hF
 have hx : ([e, f] : List av)[0]? = some e := rfl
 refine yS fun _ K1 => ?_
 refine yR ?_
 try dsimp only [St.put]
 refine yB rfl rfl rfl ?_
 refine yA rfl rfl ?_
 refine yA rfl rfl ?_
 refine yN ?_
 dsimp only [St.put]
 refine K1 _ ?_
 refine yS fun _ K2 => ?_
 refine yS fun _ K3 => ?_
 refine yR ?_
 refine yM rfl rfl ?_
 refine aa rfl (ck rfl rfl (List.length_map _)) ?_
 refine yM rfl rfl ?_
 refine yN ?_
 dsimp only [St.put]
 refine K3 _ ?_
 refine bn ?_
 refine k9 2 ?_
 refine g8 fun KR4_0 hKR4_0 => ?_
 refine yS fun _ K5 => ?_
 refine yR ?_
 refine aa rfl (bt (c := true) (cr rfl rfl rfl) (by rfl)) ?_
 refine yN ?_
 dsimp only [St.put]
 refine K5 _ ?_
 refine yS fun _ K6 => ?_
 refine al rfl (fun _ => ?_) (fun h => by cases h)
 refine aw ?_
 refine K6 _ ?_
 refine yS fun _ K7 => ?_
 refine bn ?_
 refine yS fun _ K8 => ?_
 refine yR ?_
 try dsimp only [St.put]
 refine aa rfl (b7 (k := 0) rfl rfl rfl (by first | rfl | omega) (cm hx) (Enc.len _)) ?_
 refine yE rfl rfl rfl ?_
 try dsimp only [St.put]
 refine ae rfl (bp rfl ?_)
 try dsimp only [St.put]
 refine ae rfl (ay rfl rfl rfl zG rfl rfl (by rfl) ?_)
 refine yN ?_
 dsimp only [St.put]
 refine K8 _ ?_
 refine dg (i := 7) rfl zG (by first | exact List.cons_ne_nil _ _ | (simp; done) | (simp [putAt]; done)) ?_
 dsimp only
 refine yS fun _ K9 => ?_
 refine yR ?_
 try dsimp only [St.put]
 refine af rfl (aq rfl rfl rfl) ?_
 refine yE rfl rfl rfl ?_
 try dsimp only [St.put]
 refine ae rfl (eb rfl rfl rfl (kr t e hl) zG ?_)
 refine yA rfl rfl ?_
 refine yN ?_
 dsimp only [St.put]
 refine K9 _ ?_
 refine yS fun _ K10 => ?_
 refine yR ?_
 refine yM rfl rfl ?_
 refine aa rfl (bt (c := true) (dt rfl rfl rfl) (kh h0)) ?_
 refine yN ?_
 dsimp only [St.put]
 refine K10 _ ?_
 refine al rfl (fun _ => ?_) (fun h => by cases h)
 refine yS fun _ K11 => ?_
 refine yR ?_
 refine yM rfl rfl ?_
 refine yA rfl rfl ?_
 refine yA rfl rfl ?_
 refine yN ?_
 dsimp only [St.put]
 refine K11 _ ?_
 refine am ?_
 refine je rfl (by constructor) (by constructor) zN zS ?_ ?_
 ·rfl
 rfl
theorem ue7 (t : ai) (e f : av) (hl : e.ss.length ≤ 20) (hlf : f.ss.length ≤ 20) (h0 : cw t e = 0) (hh0 : cw t f ≠ 0) :
  da cv Tryz.prog 63 [b8 t, lst [e, f]] (.tup [.list [] .nil, .v (.int .i64 (cw t f))]) := by
 refine fy Tryz.func63 rfl (fun m => .tup (ar ed (ar .v bl))) fun G nx hF => ?_
 simp only [Tryz.ntmps63, List.length_cons, List.length_nil, Nat.reduceAdd, Nat.reduceSub]
 refine bi fun hlt => ?_
 dsimp only at hlt
 have hnx := hlt 0 _ hF
 have hx : ([e, f] : List av)[0]? = some e := rfl
 have hy : ([e, f] : List av)[1]? = some f := rfl
 refine yS fun _ K1 => ?_
 refine yR ?_
 try dsimp only [St.put]
 refine yB rfl rfl rfl ?_
 refine yA rfl rfl ?_
 refine yA rfl rfl ?_
 refine yN ?_
 dsimp only [St.put]
 refine K1 _ ?_
 refine yS fun _ K2 => ?_
 refine yS fun _ K3 => ?_
 refine yR ?_
 refine yM rfl rfl ?_
 refine aa rfl (ck rfl rfl (List.length_map _)) ?_
 refine yM rfl rfl ?_
 refine yN ?_
 dsimp only [St.put]
 refine K3 _ ?_
 refine bn ?_
 refine k9 2 ?_
 refine g8 fun KR4_0 hKR4_0 => ?_
 refine yS fun _ K5 => ?_
 refine yR ?_
 (refine aa rfl (bt (c := true) (cr rfl rfl rfl) (by rfl)) ?_)
 refine yN ?_
 dsimp only [St.put]
 refine K5 _ ?_
 refine yS fun _ K6 => ?_
 refine al rfl (fun _ => ?_) (fun h => by cases h)
 refine aw ?_
 refine K6 _ ?_
 refine yS fun _ K7 => ?_
 refine bn ?_
 refine yS fun _ K8 => ?_
 refine yR ?_
 try dsimp only [St.put]
 (refine aa rfl (b7 (k := 0) rfl rfl rfl (by first | rfl | omega) (cm hx) (Enc.len _)) ?_)
 refine yE rfl rfl rfl ?_
 try dsimp only [St.put]
 refine ae rfl (bp rfl ?_)
 try dsimp only [St.put]
 refine ae rfl (ay rfl rfl rfl zG rfl rfl (by rfl) ?_)
 refine yN ?_
 dsimp only [St.put]
 refine K8 _ ?_
 refine dg (i := 7) rfl zG (by first | exact List.cons_ne_nil _ _ | (simp; done) | (simp [putAt]; done)) ?_
 dsimp only
 refine yS fun _ K9 => ?_
 refine yR ?_
 try dsimp only [St.put]
 refine af rfl (aq rfl rfl rfl) ?_
 refine yE rfl rfl rfl ?_
 try dsimp only [St.put]
 refine ae rfl (eb rfl rfl rfl (kr t e hl) zG ?_)
 refine yA rfl rfl ?_
 refine yN ?_
 dsimp only [St.put]
 refine K9 _ ?_
 refine yS fun _ K10 => ?_
 refine yR ?_
 refine yM rfl rfl ?_
 (refine aa rfl (bt (c := false) (dt rfl rfl rfl) ((mq h0))) ?_)
 refine yN ?_
 dsimp only [St.put]
 refine K10 _ ?_
 refine al rfl (fun h => by cases h) (fun _ => ?_)
 refine aw ?_
 refine K7 _ ?_
 refine yR ?_
 refine aa rfl (bw rfl rfl rfl (by omega)) ?_
 refine yM rfl rfl ?_
 refine yN ?_
 dsimp only [St.put]
 refine hKR4_0 _ ?_
 refine g8 fun KR4_1 hKR4_1 => ?_
 refine yS fun _ K11 => ?_
 refine yR ?_
 (refine aa rfl (bt (c := true) (cr rfl rfl rfl) (by rfl)) ?_)
 refine yN ?_
 dsimp only [St.put]
 refine K11 _ ?_
 refine yS fun _ K12 => ?_
 refine al rfl (fun _ => ?_) (fun h => by cases h)
 refine aw ?_
 refine K12 _ ?_
 refine yS fun _ K13 => ?_
 refine bn ?_
 refine yS fun _ K14 => ?_
 refine yR ?_
 try dsimp only [St.put]
 (refine aa rfl (b7 (k := 1) rfl rfl rfl (by first | rfl | omega) (cm hy) (Enc.len _)) ?_)
 refine yE rfl rfl rfl ?_
 try dsimp only [St.put]
 refine ae rfl (bp rfl ?_)
 try dsimp only [St.put]
 refine ae rfl (ay rfl rfl rfl zG rfl rfl (by rfl) ?_)
 refine yN ?_
 dsimp only [St.put]
 refine K14 _ ?_
 refine dg (i := 7) rfl zG (by first | exact List.cons_ne_nil _ _ | (simp; done) | (simp [putAt]; done)) ?_
 dsimp only
 refine yS fun _ K15 => ?_
 refine yR ?_
 try dsimp only [St.put]
 refine af rfl (aq rfl rfl rfl) ?_
 refine yE rfl rfl rfl ?_
 try dsimp only [St.put]
 refine ae rfl (eb rfl rfl rfl (kr t f hlf) zG ?_)
 refine yA rfl rfl ?_
 refine yN ?_
 dsimp only [St.put]
 refine K15 _ ?_
 refine yS fun _ K16 => ?_
 refine yR ?_
 refine yM rfl rfl ?_
 (refine aa rfl (bt (c := true) (dt rfl rfl rfl) ((kh hh0))) ?_)
 refine yN ?_
 dsimp only [St.put]
 refine K16 _ ?_
 refine al rfl (fun _ => ?_) (fun h => by cases h)
 refine yS fun _ K17 => ?_
 refine yR ?_
 refine yM rfl rfl ?_
 refine yA rfl rfl ?_
 refine yA rfl rfl ?_
 refine yN ?_
 dsimp only [St.put]
 refine K17 _ ?_
 refine am ?_
 refine je rfl (by constructor) (by constructor) zN zS ?_ ?_
 ·rfl
 rfl
theorem ue6 (t : ai) (e f : av) (hl : e.ss.length ≤ 20) (hlf : f.ss.length ≤ 20) (h0 : cw t e = 0) (hh0 : cw t f = 0) (hf : (ef e.ss).isSome = true) :
  da cv Tryz.prog 63 [b8 t, lst [e, f]] (.tup [.list [] .nil, .v (.int .i64 8)]) := by
 refine fy Tryz.func63 rfl (fun m => .tup (ar ed (ar .v bl))) fun G nx hF => ?_
 simp only [Tryz.ntmps63, List.length_cons, List.length_nil, Nat.reduceAdd, Nat.reduceSub]
 refine bi fun hlt => ?_
 dsimp only at hlt
 have hnx := hlt 0 _ hF
 obtain ⟨ht, hl12, he⟩ := kq h0
 have hx : ([e, f] : List av)[0]? = some e := rfl
 have hy : ([e, f] : List av)[1]? = some f := rfl
 refine yS fun _ K1 => ?_
 refine yR ?_
 try dsimp only [St.put]
 refine yB rfl rfl rfl ?_
 refine yA rfl rfl ?_
 refine yA rfl rfl ?_
 refine yN ?_
 dsimp only [St.put]
 refine K1 _ ?_
 refine yS fun _ K2 => ?_
 refine yS fun _ K3 => ?_
 refine yR ?_
 refine yM rfl rfl ?_
 refine aa rfl (ck rfl rfl (List.length_map _)) ?_
 refine yM rfl rfl ?_
 refine yN ?_
 dsimp only [St.put]
 refine K3 _ ?_
 refine bn ?_
 refine k9 3 ?_
 refine g8 fun KR4_0 hKR4_0 => ?_
 refine yS fun _ K5 => ?_
 refine yR ?_
 (refine aa rfl (bt (c := true) (cr rfl rfl rfl) (by rfl)) ?_)
 refine yN ?_
 dsimp only [St.put]
 refine K5 _ ?_
 refine yS fun _ K6 => ?_
 refine al rfl (fun _ => ?_) (fun h => by cases h)
 refine aw ?_
 refine K6 _ ?_
 refine yS fun _ K7 => ?_
 refine bn ?_
 refine yS fun _ K8 => ?_
 refine yR ?_
 try dsimp only [St.put]
 (refine aa rfl (b7 (k := 0) rfl rfl rfl (by first | rfl | omega) (cm hx) (Enc.len _)) ?_)
 refine yE rfl rfl rfl ?_
 try dsimp only [St.put]
 refine ae rfl (bp rfl ?_)
 try dsimp only [St.put]
 refine ae rfl (ay rfl rfl rfl zG rfl rfl (by rfl) ?_)
 refine yN ?_
 dsimp only [St.put]
 refine K8 _ ?_
 refine dg (i := 7) rfl zG (by first | exact List.cons_ne_nil _ _ | (simp; done) | (simp [putAt]; done)) ?_
 dsimp only
 refine yS fun _ K9 => ?_
 refine yR ?_
 try dsimp only [St.put]
 refine af rfl (aq rfl rfl rfl) ?_
 refine yE rfl rfl rfl ?_
 try dsimp only [St.put]
 refine ae rfl (eb rfl rfl rfl (kr t e hl) zG ?_)
 refine yA rfl rfl ?_
 refine yN ?_
 dsimp only [St.put]
 refine K9 _ ?_
 refine yS fun _ K10 => ?_
 refine yR ?_
 refine yM rfl rfl ?_
 (refine aa rfl (bt (c := false) (dt rfl rfl rfl) ((mq h0))) ?_)
 refine yN ?_
 dsimp only [St.put]
 refine K10 _ ?_
 refine al rfl (fun h => by cases h) (fun _ => ?_)
 refine aw ?_
 refine K7 _ ?_
 refine yR ?_
 refine aa rfl (bw rfl rfl rfl (by omega)) ?_
 refine yM rfl rfl ?_
 refine yN ?_
 dsimp only [St.put]
 refine hKR4_0 _ ?_
 refine g8 fun KR4_1 hKR4_1 => ?_
 refine yS fun _ K11 => ?_
 refine yR ?_
 (refine aa rfl (bt (c := true) (cr rfl rfl rfl) (by rfl)) ?_)
 refine yN ?_
 dsimp only [St.put]
 refine K11 _ ?_
 refine yS fun _ K12 => ?_
 refine al rfl (fun _ => ?_) (fun h => by cases h)
 refine aw ?_
 refine K12 _ ?_
 refine yS fun _ K13 => ?_
 refine bn ?_
 refine yS fun _ K14 => ?_
 refine yR ?_
 try dsimp only [St.put]
 (refine aa rfl (b7 (k := 1) rfl rfl rfl (by first | rfl | omega) (cm hy) (Enc.len _)) ?_)
 refine yE rfl rfl rfl ?_
 try dsimp only [St.put]
 refine ae rfl (bp rfl ?_)
 try dsimp only [St.put]
 refine ae rfl (ay rfl rfl rfl zG rfl rfl (by rfl) ?_)
 refine yN ?_
 dsimp only [St.put]
 refine K14 _ ?_
 refine dg (i := 7) rfl zG (by first | exact List.cons_ne_nil _ _ | (simp; done) | (simp [putAt]; done)) ?_
 dsimp only
 refine yS fun _ K15 => ?_
 refine yR ?_
 try dsimp only [St.put]
 refine af rfl (aq rfl rfl rfl) ?_
 refine yE rfl rfl rfl ?_
 try dsimp only [St.put]
 refine ae rfl (eb rfl rfl rfl (kr t f hlf) zG ?_)
 refine yA rfl rfl ?_
 refine yN ?_
 dsimp only [St.put]
 refine K15 _ ?_
 refine yS fun _ K16 => ?_
 refine yR ?_
 refine yM rfl rfl ?_
 (refine aa rfl (bt (c := false) (dt rfl rfl rfl) ((mq hh0))) ?_)
 refine yN ?_
 dsimp only [St.put]
 refine K16 _ ?_
 refine al rfl (fun h => by cases h) (fun _ => ?_)
 refine aw ?_
 refine K13 _ ?_
 refine yR ?_
 refine aa rfl (bw rfl rfl rfl (by omega)) ?_
 refine yM rfl rfl ?_
 refine yN ?_
 dsimp only [St.put]
 refine hKR4_1 _ ?_
 refine g8 fun KR4_2 hKR4_2 => ?_
 refine yS fun _ K17 => ?_
 refine yR ?_
 (refine aa rfl (bt (c := false) (cr rfl rfl rfl) (by rfl)) ?_)
 refine yN ?_
 dsimp only [St.put]
 refine K17 _ ?_
 refine yS fun _ K18 => ?_
 refine al rfl (fun h => by cases h) (fun _ => ?_)
 refine ey ?_
 refine K2 _ ?_
 refine yS fun _ K19 => ?_
 refine yR ?_
 refine yA rfl rfl ?_
 refine yN ?_
 dsimp only [St.put]
 refine K19 _ ?_
 refine t8 9 94 1 rfl (by decide) ?_
 dsimp only [List.set_cons_zero, List.set_cons_succ]
 refine yS fun _ K20 => ?_
 refine yS fun _ K21 => ?_
 refine yR ?_
 refine yM rfl rfl ?_
 refine aa rfl (ck rfl rfl (List.length_map _)) ?_
 refine yM rfl rfl ?_
 refine yN ?_
 dsimp only [St.put]
 refine K21 _ ?_
 refine bn ?_
 refine k9 2 ?_
 refine g8 fun KR22_0 hKR22_0 => ?_
 refine yS fun _ K23 => ?_
 refine yR ?_
 (refine aa rfl (bt (c := true) (cr rfl rfl rfl) (by rfl)) ?_)
 refine yN ?_
 dsimp only [St.put]
 refine K23 _ ?_
 refine yS fun _ K24 => ?_
 refine al rfl (fun _ => ?_) (fun h => by cases h)
 refine aw ?_
 refine K24 _ ?_
 refine yS fun _ K25 => ?_
 refine bn ?_
 refine yS fun _ K26 => ?_
 refine yR ?_
 try dsimp only [St.put]
 (refine aa rfl (b7 (k := 0) rfl rfl rfl (by first | rfl | omega) (cm hx) (Enc.len _)) ?_)
 refine yE rfl rfl rfl ?_
 try dsimp only [St.put]
 refine ae rfl (bp rfl ?_)
 try dsimp only [St.put]
 refine ae rfl (ay rfl rfl rfl zG rfl rfl (by rfl) ?_)
 refine yN ?_
 dsimp only [St.put]
 refine K26 _ ?_
 refine dg (i := 11) rfl zG (by first | exact List.cons_ne_nil _ _ | (simp; done) | (simp [putAt]; done)) ?_
 dsimp only
 refine yS fun _ K27 => ?_
 refine yR ?_
 try dsimp only [St.put]
 refine af rfl (aq rfl rfl rfl) ?_
 refine yE rfl rfl rfl ?_
 try dsimp only [St.put]
 refine ae rfl (i0 rfl rfl rfl (m6 t e hl12 he _ _) (fun y => ?_))
 refine yM rfl rfl ?_
 refine yX rfl rfl rfl rfl ?_
 refine yX rfl rfl rfl rfl ?_
 refine yX rfl rfl rfl rfl ?_
 refine yX rfl rfl rfl rfl ?_
 refine yA rfl rfl ?_
 refine yA rfl rfl ?_
 refine yA rfl rfl ?_
 refine yA rfl rfl ?_
 refine yN ?_
 dsimp only [St.put]
 refine K27 _ ?_
 refine yS fun _ K28 => ?_
 refine yS fun _ K29 => ?_
 refine yR ?_
 refine aa rfl (bt (c := true) (a8 rfl (by constructor)) hf) ?_
 refine yN ?_
 dsimp only [St.put]
 refine K29 _ ?_
 refine al rfl (fun _ => ?_) (fun h => by cases h)
 refine yS fun _ K30 => ?_
 refine yR ?_
 refine yA rfl rfl ?_
 refine yA rfl rfl ?_
 refine yN ?_
 dsimp only [St.put]
 refine K30 _ ?_
 refine am ?_
 refine je rfl (by constructor) (by constructor) zN zS ?_ ?_
 ·rfl
 rfl
theorem ue5 (t : ai) (e f : av) (hl : e.ss.length ≤ 20) (hlf : f.ss.length ≤ 20) (h : bz t e = 0) (hh0 : cw t f = 0) (hhf : (ef f.ss).isSome = true) :
  da cv Tryz.prog 63 [b8 t, lst [e, f]] (.tup [.list [] .nil, .v (.int .i64 8)]) := by
 refine fy Tryz.func63 rfl (fun m => .tup (ar ed (ar .v bl))) fun G nx hF => ?_
 simp only [Tryz.ntmps63, List.length_cons, List.length_nil, Nat.reduceAdd, Nat.reduceSub]
 refine bi fun hlt => ?_
 dsimp only at hlt
 have hnx := hlt 0 _ hF
 obtain ⟨h0, hf⟩ := lg h
 obtain ⟨ht, hl12, he⟩ := kq h0
 obtain ⟨_, hhl12, hhe⟩ := kq hh0
 have hx : ([e, f] : List av)[0]? = some e := rfl
 have hy : ([e, f] : List av)[1]? = some f := rfl
 refine yS fun _ K1 => ?_
 refine yR ?_
 try dsimp only [St.put]
 refine yB rfl rfl rfl ?_
 refine yA rfl rfl ?_
 refine yA rfl rfl ?_
 refine yN ?_
 dsimp only [St.put]
 refine K1 _ ?_
 refine yS fun _ K2 => ?_
 refine yS fun _ K3 => ?_
 refine yR ?_
 refine yM rfl rfl ?_
 refine aa rfl (ck rfl rfl (List.length_map _)) ?_
 refine yM rfl rfl ?_
 refine yN ?_
 dsimp only [St.put]
 refine K3 _ ?_
 refine bn ?_
 refine k9 3 ?_
 refine g8 fun KR4_0 hKR4_0 => ?_
 refine yS fun _ K5 => ?_
 refine yR ?_
 (refine aa rfl (bt (c := true) (cr rfl rfl rfl) (by rfl)) ?_)
 refine yN ?_
 dsimp only [St.put]
 refine K5 _ ?_
 refine yS fun _ K6 => ?_
 refine al rfl (fun _ => ?_) (fun h => by cases h)
 refine aw ?_
 refine K6 _ ?_
 refine yS fun _ K7 => ?_
 refine bn ?_
 refine yS fun _ K8 => ?_
 refine yR ?_
 try dsimp only [St.put]
 (refine aa rfl (b7 (k := 0) rfl rfl rfl (by first | rfl | omega) (cm hx) (Enc.len _)) ?_)
 refine yE rfl rfl rfl ?_
 try dsimp only [St.put]
 refine ae rfl (bp rfl ?_)
 try dsimp only [St.put]
 refine ae rfl (ay rfl rfl rfl zG rfl rfl (by rfl) ?_)
 refine yN ?_
 dsimp only [St.put]
 refine K8 _ ?_
 refine dg (i := 7) rfl zG (by first | exact List.cons_ne_nil _ _ | (simp; done) | (simp [putAt]; done)) ?_
 dsimp only
 refine yS fun _ K9 => ?_
 refine yR ?_
 try dsimp only [St.put]
 refine af rfl (aq rfl rfl rfl) ?_
 refine yE rfl rfl rfl ?_
 try dsimp only [St.put]
 refine ae rfl (eb rfl rfl rfl (kr t e hl) zG ?_)
 refine yA rfl rfl ?_
 refine yN ?_
 dsimp only [St.put]
 refine K9 _ ?_
 refine yS fun _ K10 => ?_
 refine yR ?_
 refine yM rfl rfl ?_
 (refine aa rfl (bt (c := false) (dt rfl rfl rfl) ((mq h0))) ?_)
 refine yN ?_
 dsimp only [St.put]
 refine K10 _ ?_
 refine al rfl (fun h => by cases h) (fun _ => ?_)
 refine aw ?_
 refine K7 _ ?_
 refine yR ?_
 refine aa rfl (bw rfl rfl rfl (by omega)) ?_
 refine yM rfl rfl ?_
 refine yN ?_
 dsimp only [St.put]
 refine hKR4_0 _ ?_
 refine g8 fun KR4_1 hKR4_1 => ?_
 refine yS fun _ K11 => ?_
 refine yR ?_
 (refine aa rfl (bt (c := true) (cr rfl rfl rfl) (by rfl)) ?_)
 refine yN ?_
 dsimp only [St.put]
 refine K11 _ ?_
 refine yS fun _ K12 => ?_
 refine al rfl (fun _ => ?_) (fun h => by cases h)
 refine aw ?_
 refine K12 _ ?_
 refine yS fun _ K13 => ?_
 refine bn ?_
 refine yS fun _ K14 => ?_
 refine yR ?_
 try dsimp only [St.put]
 (refine aa rfl (b7 (k := 1) rfl rfl rfl (by first | rfl | omega) (cm hy) (Enc.len _)) ?_)
 refine yE rfl rfl rfl ?_
 try dsimp only [St.put]
 refine ae rfl (bp rfl ?_)
 try dsimp only [St.put]
 refine ae rfl (ay rfl rfl rfl zG rfl rfl (by rfl) ?_)
 refine yN ?_
 dsimp only [St.put]
 refine K14 _ ?_
 refine dg (i := 7) rfl zG (by first | exact List.cons_ne_nil _ _ | (simp; done) | (simp [putAt]; done)) ?_
 dsimp only
 refine yS fun _ K15 => ?_
 refine yR ?_
 try dsimp only [St.put]
 refine af rfl (aq rfl rfl rfl) ?_
 refine yE rfl rfl rfl ?_
 try dsimp only [St.put]
 refine ae rfl (eb rfl rfl rfl (kr t f hlf) zG ?_)
 refine yA rfl rfl ?_
 refine yN ?_
 dsimp only [St.put]
 refine K15 _ ?_
 refine yS fun _ K16 => ?_
 refine yR ?_
 refine yM rfl rfl ?_
 (refine aa rfl (bt (c := false) (dt rfl rfl rfl) ((mq hh0))) ?_)
 refine yN ?_
 dsimp only [St.put]
 refine K16 _ ?_
 refine al rfl (fun h => by cases h) (fun _ => ?_)
 refine aw ?_
 refine K13 _ ?_
 refine yR ?_
 refine aa rfl (bw rfl rfl rfl (by omega)) ?_
 refine yM rfl rfl ?_
 refine yN ?_
 dsimp only [St.put]
 refine hKR4_1 _ ?_
 refine g8 fun KR4_2 hKR4_2 => ?_
 refine yS fun _ K17 => ?_
 refine yR ?_
 (refine aa rfl (bt (c := false) (cr rfl rfl rfl) (by rfl)) ?_)
 refine yN ?_
 dsimp only [St.put]
 refine K17 _ ?_
 refine yS fun _ K18 => ?_
 refine al rfl (fun h => by cases h) (fun _ => ?_)
 refine ey ?_
 refine K2 _ ?_
 refine yS fun _ K19 => ?_
 refine yR ?_
 refine yA rfl rfl ?_
 refine yN ?_
 dsimp only [St.put]
 refine K19 _ ?_
 refine t8 9 94 1 rfl (by decide) ?_
 dsimp only [List.set_cons_zero, List.set_cons_succ]
 refine yS fun _ K20 => ?_
 refine yS fun _ K21 => ?_
 refine yR ?_
 refine yM rfl rfl ?_
 refine aa rfl (ck rfl rfl (List.length_map _)) ?_
 refine yM rfl rfl ?_
 refine yN ?_
 dsimp only [St.put]
 refine K21 _ ?_
 refine bn ?_
 refine k9 3 ?_
 refine g8 fun KR22_0 hKR22_0 => ?_
 refine yS fun _ K23 => ?_
 refine yR ?_
 (refine aa rfl (bt (c := true) (cr rfl rfl rfl) (by rfl)) ?_)
 refine yN ?_
 dsimp only [St.put]
 refine K23 _ ?_
 refine yS fun _ K24 => ?_
 refine al rfl (fun _ => ?_) (fun h => by cases h)
 refine aw ?_
 refine K24 _ ?_
 refine yS fun _ K25 => ?_
 refine bn ?_
 refine yS fun _ K26 => ?_
 refine yR ?_
 try dsimp only [St.put]
 (refine aa rfl (b7 (k := 0) rfl rfl rfl (by first | rfl | omega) (cm hx) (Enc.len _)) ?_)
 refine yE rfl rfl rfl ?_
 try dsimp only [St.put]
 refine ae rfl (bp rfl ?_)
 try dsimp only [St.put]
 refine ae rfl (ay rfl rfl rfl zG rfl rfl (by rfl) ?_)
 refine yN ?_
 dsimp only [St.put]
 refine K26 _ ?_
 refine dg (i := 11) rfl zG (by first | exact List.cons_ne_nil _ _ | (simp; done) | (simp [putAt]; done)) ?_
 dsimp only
 refine yS fun _ K27 => ?_
 refine yR ?_
 try dsimp only [St.put]
 refine af rfl (aq rfl rfl rfl) ?_
 refine yE rfl rfl rfl ?_
 try dsimp only [St.put]
 refine ae rfl (i0 rfl rfl rfl (m6 t e hl12 he _ _) (fun y => ?_))
 refine yM rfl rfl ?_
 refine yX rfl rfl rfl rfl ?_
 refine yX rfl rfl rfl rfl ?_
 refine yX rfl rfl rfl rfl ?_
 refine yX rfl rfl rfl rfl ?_
 refine yA rfl rfl ?_
 refine yA rfl rfl ?_
 refine yA rfl rfl ?_
 refine yA rfl rfl ?_
 refine yN ?_
 dsimp only [St.put]
 refine K27 _ ?_
 refine yS fun _ K28 => ?_
 refine yS fun _ K29 => ?_
 refine yR ?_
 refine aa rfl (bt (c := false) (a8 rfl (by constructor)) (by rw [hf]; rfl)) ?_
 refine yN ?_
 dsimp only [St.put]
 refine K29 _ ?_
 refine al rfl (fun h => by cases h) (fun _ => ?_)
 refine aw ?_
 refine K28 _ ?_
 refine yR ?_
 refine yM rfl rfl ?_
 refine yM rfl rfl ?_
 try dsimp only [St.put]
 refine ae rfl (c9 rfl rfl rfl (by decide) (by decide) zR (by decide) ?_)
 try dsimp only [St.put]
 (refine ae rfl (tn rfl rfl zG rfl zR zR (by first | (show 1 * _ ≤ _; decide) | (show 2 * _ ≤ _; decide)) (by first | (show 1 ≤ _; decide) | (show 2 ≤ _; decide)) ?_))
 refine yA rfl rfl ?_
 refine yN ?_
 dsimp only [St.put]
 refine K25 _ ?_
 refine yR ?_
 refine aa rfl (bw rfl rfl rfl (by omega)) ?_
 refine yM rfl rfl ?_
 refine yN ?_
 dsimp only [St.put]
 refine hKR22_0 _ ?_
 refine g8 fun KR22_1 hKR22_1 => ?_
 refine yS fun _ K30 => ?_
 refine yR ?_
 (refine aa rfl (bt (c := true) (cr rfl rfl rfl) (by rfl)) ?_)
 refine yN ?_
 dsimp only [St.put]
 refine K30 _ ?_
 refine yS fun _ K31 => ?_
 refine al rfl (fun _ => ?_) (fun h => by cases h)
 refine aw ?_
 refine K31 _ ?_
 refine yS fun _ K32 => ?_
 refine bn ?_
 refine yS fun _ K33 => ?_
 refine yR ?_
 try dsimp only [St.put]
 (refine aa rfl (b7 (k := 1) rfl rfl rfl (by first | rfl | omega) (cm hy) (Enc.len _)) ?_)
 refine yE rfl rfl rfl ?_
 try dsimp only [St.put]
 refine ae rfl (bp rfl ?_)
 try dsimp only [St.put]
 refine ae rfl (ay rfl rfl rfl zG rfl rfl (by rfl) ?_)
 refine yN ?_
 dsimp only [St.put]
 refine K33 _ ?_
 refine dg (i := 11) rfl zG (by first | exact List.cons_ne_nil _ _ | (simp; done) | (simp [putAt]; done)) ?_
 dsimp only
 refine yS fun _ K34 => ?_
 refine yR ?_
 try dsimp only [St.put]
 refine af rfl (aq rfl rfl rfl) ?_
 refine yE rfl rfl rfl ?_
 try dsimp only [St.put]
 refine ae rfl (i0 rfl rfl rfl (m6 t f hhl12 hhe _ _) (fun z => ?_))
 refine yM rfl rfl ?_
 refine yX rfl rfl rfl rfl ?_
 refine yX rfl rfl rfl rfl ?_
 refine yX rfl rfl rfl rfl ?_
 refine yX rfl rfl rfl rfl ?_
 refine yA rfl rfl ?_
 refine yA rfl rfl ?_
 refine yA rfl rfl ?_
 refine yA rfl rfl ?_
 refine yN ?_
 dsimp only [St.put]
 refine K34 _ ?_
 refine yS fun _ K35 => ?_
 refine yS fun _ K36 => ?_
 refine yR ?_
 refine aa rfl (bt (c := true) (a8 rfl (by constructor)) hhf) ?_
 refine yN ?_
 dsimp only [St.put]
 refine K36 _ ?_
 refine al rfl (fun _ => ?_) (fun h => by cases h)
 refine yS fun _ K37 => ?_
 refine yR ?_
 refine yA rfl rfl ?_
 refine yA rfl rfl ?_
 refine yN ?_
 dsimp only [St.put]
 refine K37 _ ?_
 refine am ?_
 refine je rfl (by constructor) (by constructor) zN zS ?_ ?_
 ·rfl
 rfl
theorem yo (t : ai) (e f : av) (hl : e.ss.length ≤ 20) (hlf : f.ss.length ≤ 20) (h : gh t e f ≠ 0) :
  da cv Tryz.prog 63 [b8 t, lst [e, f]] (.tup [.list [] .nil, .v (.int .i64 (gh t e f))]) := by
 rcases ulx h with ⟨h1, h2⟩ | ⟨h1, h2, h3⟩ | ⟨h1, h2, h3, h4⟩ | ⟨h1, h2, h3, h4⟩
 ·rw [h2]; exact ue8 t e f hl h1
 ·rw [h3]; exact ue7 t e f hl hlf h1 h2
 ·rw [h4]; exact ue6 t e f hl hlf h1 h2 h3
 rw [h4]; exact ue5 t e f hl hlf h2 h1 h3
theorem ugk (t : ai) (e f : av) (r : dm) (hl : e.ss.length ≤ 20) (hlf : f.ss.length ≤ 20) (h : bz t e = 0) (hh : bz t f = 0) (hr : gx r = true) (G : Nat → Option GObj) (nx : Nat) (hF : G 0 = some cv) :
  PC Tryz.prog 47 [b8 t, val r, lst [e, f]] G nx fun r' G' nx' => ∃ y : (Nat × Nat) × (Nat × Nat), r' = .tup [.list [[(.elem (gi t e (nx + 1 + 1 + 1 + 1) (nx + 1 + 1 + 1 + 1 + 1)))], [(.elem (gi t f (nx + 1 + 1 + 1 + 1 + 1 + 1 + 1) (nx + 1 + 1 + 1 + 1 + 1 + 1 + 1 + 1)))]] .none, .v (.int .i64 0)] ∧ G' = (ak (ak (ak (ak G (nx + 1 + 1 + 1 + 1) (bo Tryz.prog 115 y.1.1 (az (ax e.ss)))) (nx + 1 + 1 + 1 + 1 + 1) (bo Tryz.prog 115 y.1.2 (az (cn e.ss)))) (nx + 1 + 1 + 1 + 1 + 1 + 1 + 1) (bo Tryz.prog 115 y.2.1 (az (ax f.ss)))) (nx + 1 + 1 + 1 + 1 + 1 + 1 + 1 + 1) (bo Tryz.prog 115 y.2.2 (az (cn f.ss)))) ∧ nx' = (nx + 1 + 1 + 1 + 1 + 1 + 1 + 1 + 1 + 1) :=
 zr t r [e, f] _ G nx (fun y : (Nat × Nat) × (Nat × Nat) => (ak (ak (ak (ak G (nx + 1 + 1 + 1 + 1) (bo Tryz.prog 115 y.1.1 (az (ax e.ss)))) (nx + 1 + 1 + 1 + 1 + 1) (bo Tryz.prog 115 y.1.2 (az (cn e.ss)))) (nx + 1 + 1 + 1 + 1 + 1 + 1 + 1) (bo Tryz.prog 115 y.2.1 (az (ax f.ss)))) (nx + 1 + 1 + 1 + 1 + 1 + 1 + 1 + 1) (bo Tryz.prog 115 y.2.2 (az (cn f.ss))))) _ hr (by omega) (ucx _) (fun hlt y => ud5 y) (ut t e f hl hlf h hh G nx hF)
theorem ugl (t : ai) (e f : av) (r : dm) (hl : e.ss.length ≤ 20) (hlf : f.ss.length ≤ 20) (h : bz t e = 0) (hh : bz t f = 0) (hr : gx r = false) :
  da cv Tryz.prog 47 [b8 t, val r, lst [e, f]] (.tup [.list [] .nil, .v (.int .i64 2)]) :=
 zt t r [e, f] (fun nx => .list [[(.elem (gi t e (nx + 1 + 1 + 1 + 1) (nx + 1 + 1 + 1 + 1 + 1)))], [(.elem (gi t f (nx + 1 + 1 + 1 + 1 + 1 + 1 + 1) (nx + 1 + 1 + 1 + 1 + 1 + 1 + 1 + 1)))]] .none) (fun G nx (y : (Nat × Nat) × (Nat × Nat)) => (ak (ak (ak (ak G (nx + 1 + 1 + 1 + 1) (bo Tryz.prog 115 y.1.1 (az (ax e.ss)))) (nx + 1 + 1 + 1 + 1 + 1) (bo Tryz.prog 115 y.1.2 (az (cn e.ss)))) (nx + 1 + 1 + 1 + 1 + 1 + 1 + 1) (bo Tryz.prog 115 y.2.1 (az (ax f.ss)))) (nx + 1 + 1 + 1 + 1 + 1 + 1 + 1 + 1) (bo Tryz.prog 115 y.2.2 (az (cn f.ss))))) (fun nx => (nx + 1 + 1 + 1 + 1 + 1 + 1 + 1 + 1 + 1)) hr (fun nx => by omega) (fun G nx hlt y n o ho => by
  have := hlt n o ho
  rw [io (by omega), io (by omega), io (by omega), io (by omega)]; exact ho) (fun G nx hF => ut t e f hl hlf h hh G nx hF)
theorem ucl (t : ai) (e f : av) (r : dm) (er : Int) (he0 : er ≠ 0) (hcall : da cv Tryz.prog 47 [b8 t, val r, lst [e, f]] (.tup [.list [] .nil, .v (.int .i64 er)])) :
  da cv Tryz.prog 26 [b8 t, val e, val f, val r] (.tup [val (⟨0, 0, 0⟩ : dm), .v (.int .i64 er)]) := by
 refine fy Tryz.func26 rfl (fun m => .tup (ar (dq _ _) (ar .v bl))) fun G nx hF => ?_
 simp only [Tryz.ntmps26, List.length_cons, List.length_nil, Nat.reduceAdd, Nat.reduceSub]
 refine bi fun hlt => ?_
 dsimp only at hlt
 have hnx := hlt 0 _ hF
 refine yS fun _ K1 => ?_
 refine yR ?_
 try dsimp only [St.put]
 refine yB rfl rfl rfl ?_
 try dsimp only [St.put]
 refine yB rfl rfl rfl ?_
 try dsimp only [St.put]
 refine yB rfl rfl rfl ?_
 try dsimp only [St.put]
 refine yB rfl rfl rfl ?_
 try dsimp only [St.put]
 refine ae rfl (bp rfl ?_)
 refine yA rfl rfl ?_
 refine yN ?_
 dsimp only [St.put]
 refine K1 _ ?_
 refine yS fun _ K2 => ?_
 refine yR ?_
 try dsimp only [St.put]
 refine af rfl (aq rfl rfl rfl) ?_
 refine yE rfl rfl rfl ?_
 refine yE rfl rfl rfl ?_
 refine yE rfl rfl rfl ?_
 try dsimp only [St.put]
 refine ae rfl (c9 rfl rfl rfl (by decide) (by decide) zR (by decide) ?_)
 try dsimp only [St.put]
 refine ae rfl (eb rfl rfl rfl (hcall) zG ?_)
 refine yM rfl rfl ?_
 refine yX rfl rfl rfl rfl ?_
 refine yX rfl rfl rfl rfl ?_
 refine yA rfl rfl ?_
 refine yA rfl rfl ?_
 refine yN ?_
 dsimp only [St.put]
 refine K2 _ ?_
 refine yS fun _ K3 => ?_
 refine yS fun _ K4 => ?_
 refine yR ?_
 refine yM rfl rfl ?_
 (refine aa rfl (bt (c := true) (dt rfl rfl rfl) ((kh he0))) ?_)
 refine yN ?_
 dsimp only [St.put]
 refine K4 _ ?_
 refine al rfl (fun _ => ?_) (fun h => by cases h)
 refine yS fun _ K5 => ?_
 refine yR ?_
 refine aa rfl (du rfl rfl) ?_
 refine yM rfl rfl ?_
 try dsimp only [St.put]
 refine ae rfl (ay rfl rfl rfl zG rfl rfl (by rfl) ?_)
 refine yA rfl rfl ?_
 refine yN ?_
 dsimp only [St.put]
 refine K5 _ ?_
 refine am ?_
 refine dv rfl (et rfl zG (by rfl) (by first | exact List.cons_ne_nil _ _ | (simp; done) | (simp [putAt]; done)) rfl) (cj (by constructor)) zN zS ?_ ?_
 ·exact zW
 exact zW
theorem ula (t : ai) (e f : av) (r : dm) (hl : e.ss.length ≤ 20) (hlf : f.ss.length ≤ 20) (hb : gh t e f = 0) (hr : gx r = true) :
  da cv Tryz.prog 26 [b8 t, val e, val f, val r] (.tup [val (gl t e f r), .v (.int .i64 (gw t e f r))]) := by
 refine fy Tryz.func26 rfl (fun m => .tup (ar (dq _ _) (ar .v bl))) fun G nx hF => ?_
 simp only [Tryz.ntmps26, List.length_cons, List.length_nil, Nat.reduceAdd, Nat.reduceSub]
 refine bi fun hlt => ?_
 dsimp only at hlt
 have hnx := hlt 0 _ hF
 obtain ⟨h, hh⟩ := xk hb
 have hS := mn h
 refine yS fun _ K1 => ?_
 refine yR ?_
 try dsimp only [St.put]
 refine yB rfl rfl rfl ?_
 try dsimp only [St.put]
 refine yB rfl rfl rfl ?_
 try dsimp only [St.put]
 refine yB rfl rfl rfl ?_
 try dsimp only [St.put]
 refine yB rfl rfl rfl ?_
 try dsimp only [St.put]
 refine ae rfl (bp rfl ?_)
 refine yA rfl rfl ?_
 refine yN ?_
 dsimp only [St.put]
 refine K1 _ ?_
 refine yS fun _ K2 => ?_
 refine yR ?_
 try dsimp only [St.put]
 refine af rfl (aq rfl rfl rfl) ?_
 refine yE rfl rfl rfl ?_
 refine yE rfl rfl rfl ?_
 refine yE rfl rfl rfl ?_
 try dsimp only [St.put]
 refine ae rfl (c9 rfl rfl rfl (by decide) (by decide) zR (by decide) ?_)
 try dsimp only [St.put]
 refine ae rfl (i0 rfl rfl rfl (ugk t e f r hl hlf h hh hr _ _ zG) (fun y => ?_))
 refine yM rfl rfl ?_
 refine yX rfl rfl rfl rfl ?_
 refine yX rfl rfl rfl rfl ?_
 refine yA rfl rfl ?_
 refine yA rfl rfl ?_
 refine yN ?_
 dsimp only [St.put]
 refine K2 _ ?_
 refine yS fun _ K3 => ?_
 refine yS fun _ K4 => ?_
 refine yR ?_
 refine yM rfl rfl ?_
 (refine aa rfl (bt (c := false) (dt rfl rfl rfl) ((by rfl))) ?_)
 refine yN ?_
 dsimp only [St.put]
 refine K4 _ ?_
 refine al rfl (fun h => by cases h) (fun _ => ?_)
 refine aw ?_
 refine K3 _ ?_
 refine yS fun _ K5 => ?_
 refine la [(0, none), (1, none), (2, none), (3, none)] (fun _ => false) (fun i => [0, 1].contains i) 7 [true, true, true, true, false, false, false, false, false, false, false] (by kernel_rfl) (by kernel_rfl) ?_
 refine xM rfl rfl rfl rfl rfl ?_
 try dsimp only [St.put]
 refine ah rfl rfl rfl rfl (b7 (k := 0) rfl rfl rfl (by first | rfl | omega) rfl rfl) ?_
 try dsimp only [St.put]
 refine aj rfl rfl rfl rfl (a7 rfl rfl) ?_
 try dsimp only [St.put]
 refine aj rfl rfl rfl rfl (aq rfl rfl (Enc.len _)) ?_
 refine bu ?_
 refine bk [4, 8] (by kernel_rfl) (by simp) ?_
 refine bc ?_ ?_
 ·try dsimp only [St.put]
  refine br rfl rfl rfl (f8 rfl rfl rfl (rp t e _ _ _ (cn e.ss) r hS.tx (rq hS) hr _ _ (by dsimp only [St.put]; omega) (by dsimp only [St.put]; omega) zG) ?_)
  refine cq [(5, none), (6, none), (7, none)] (fun i => [5, 6, 7].contains i) 3 [true, true, true, true, true, true, true, true, false, false, false] (by kernel_rfl) ?_
  refine xM rfl rfl rfl rfl rfl ?_
  refine ah rfl rfl rfl rfl (c7 rfl rfl rfl) ?_
  refine ah rfl rfl rfl rfl (c7 rfl rfl rfl) ?_
  refine bu ?_
  refine bk [8] (by kernel_rfl) (by simp) ?_
  refine bc ?_ ?_
  ·try dsimp only [St.put]
   refine br rfl rfl rfl (bp rfl ?_)
   refine bk [9] (by kernel_rfl) (by simp) ?_
   refine bc ?_ ?_
   ·try dsimp only [St.put]
    refine br rfl rfl rfl (ay rfl rfl rfl zG rfl rfl (by rfl) ?_)
    refine cq [(10, none)] (fun i => [10].contains i) 0 [true, true, true, true, true, true, true, true, true, true, true] (by kernel_rfl) ?_
    refine ah rfl rfl rfl rfl (cg rfl (by constructor)) ?_
    refine bu ?_
    dsimp only [St.put]
    refine rx (qp (i := 12) rfl zG (by first | exact List.cons_ne_nil _ _ | (simp; done) | (simp [putAt]; done))) ?_
    dsimp only
    refine gk (by kernel_rfl) ?_
    refine K5 _ ?_
    refine yS fun _ K6 => ?_
    refine yS fun _ K7 => ?_
    refine yR ?_
    refine yM rfl rfl ?_
    refine aa rfl (dn rfl rfl) ?_
    refine yN ?_
    dsimp only [St.put]
    refine K7 _ ?_
    refine al rfl (fun hc => ?_) (fun hc => ?_)
    ·have hf : iv t e.ss r = none := by simpa [j9] using hc
     have hE : gw t e f r = 6 := by simp [gw, j8, hb, hr, hf]
     have hV : gl t e f r = ⟨0, 0, 0⟩ := by simp [gl, hE]
     refine yS fun _ K8 => ?_
     refine yR ?_
     refine aa rfl (du rfl rfl) ?_
     try dsimp only [St.put]
     refine ae rfl (ay rfl rfl rfl zG rfl rfl (by rfl) ?_)
     refine yA rfl rfl ?_
     refine yN ?_
     dsimp only [St.put]
     refine K8 _ ?_
     refine am ?_
     refine dv rfl (et rfl zG (by rfl) (by first | exact List.cons_ne_nil _ _ | (simp; done) | (simp [putAt]; done)) rfl) (cj (by constructor)) zN zS ?_ ?_
     ·rw [hV]
      exact zW
     exact Wk.of_eq (vi hE.symm)
    have hf : (iv t e.ss r).isSome = true := by simpa [j9] using hc
    obtain ⟨p, hp⟩ := Option.isSome_iff_exists.1 hf
    obtain ⟨hp1, hp2, hp3⟩ := uay hS hr hp
    have hpd : (ldO t (cn e.ss) r).getD ⟨0, 0, 0⟩ = p := by rw [j9, hp]; rfl
    have hE0 : gw t e f r = eu t f p := by simp [gw, j8, hb, hr, hp]
    have hr' := hr
    simp only [gx, Bool.and_eq_true, inB_true] at hr'
    rw [hpd]
    refine aw ?_
    refine K6 _ ?_
    refine yS fun _ K9 => ?_
    refine la [(0, none), (1, none), (2, none), (3, none)] (fun _ => false) (fun i => [0, 1].contains i) 7 [true, true, true, true, false, false, false, false, false, false, false] (by kernel_rfl) (by kernel_rfl) ?_
    refine xM rfl rfl rfl rfl rfl ?_
    try dsimp only [St.put]
    refine ah rfl rfl rfl rfl (b7 (k := 1) rfl rfl rfl (by first | rfl | omega) rfl rfl) ?_
    try dsimp only [St.put]
    refine aj rfl rfl rfl rfl (a7 rfl rfl) ?_
    try dsimp only [St.put]
    refine aj rfl rfl rfl rfl (aq rfl rfl (Enc.len _)) ?_
    refine bu ?_
    refine bk [4, 8] (by kernel_rfl) (by simp) ?_
    refine bc ?_ ?_
    ·try dsimp only [St.put]
     refine br rfl rfl rfl (f8 rfl rfl rfl (pd t f _ _ _ (ax f.ss) p (by omega) _ _ (by dsimp only [St.put]; omega) (by dsimp only [St.put]; omega) zG) ?_)
     refine cq [(5, none), (6, none), (7, none)] (fun i => [5, 6, 7].contains i) 3 [true, true, true, true, true, true, true, true, false, false, false] (by kernel_rfl) ?_
     refine xM rfl rfl rfl rfl rfl ?_
     refine ah rfl rfl rfl rfl (c7 rfl rfl rfl) ?_
     refine ah rfl rfl rfl rfl (c7 rfl rfl rfl) ?_
     refine bu ?_
     refine bk [8] (by kernel_rfl) (by simp) ?_
     refine bc ?_ ?_
     ·try dsimp only [St.put]
      refine br rfl rfl rfl (bp rfl ?_)
      refine bk [9] (by kernel_rfl) (by simp) ?_
      refine bc ?_ ?_
      ·try dsimp only [St.put]
       refine br rfl rfl rfl (ay rfl rfl rfl zG rfl rfl (by rfl) ?_)
       refine cq [(10, none)] (fun i => [10].contains i) 0 [true, true, true, true, true, true, true, true, true, true, true] (by kernel_rfl) ?_
       refine ah rfl rfl rfl rfl (cg rfl (by constructor)) ?_
       refine bu ?_
       dsimp only [St.put]
       refine gk (by kernel_rfl) ?_
       refine K9 _ ?_
       refine yS fun _ K10 => ?_
       refine yS fun _ K11 => ?_
       refine yR ?_
       refine yM rfl rfl ?_
       refine aa rfl (dn rfl rfl) ?_
       refine yN ?_
       dsimp only [St.put]
       refine K11 _ ?_
       refine al rfl (fun hc => ?_) (fun hc => ?_)
       ·have hg : ax f.ss (p.ch, p.ln) = none := by simpa using hc
        have hE1 : eu t f p = 6 := by simp [eu, hh, hp1, hg]
        have hE : gw t e f r = 6 := hE0.trans hE1
        have hV : gl t e f r = ⟨0, 0, 0⟩ := by simp [gl, hE]
        refine yS fun _ K12 => ?_
        refine yR ?_
        refine aa rfl (du rfl rfl) ?_
        try dsimp only [St.put]
        refine ae rfl (ay rfl rfl rfl zG rfl rfl (by rfl) ?_)
        refine yA rfl rfl ?_
        refine yN ?_
        dsimp only [St.put]
        refine K12 _ ?_
        refine am ?_
        refine dv rfl (et rfl zG (by rfl) (by first | exact List.cons_ne_nil _ _ | (simp; done) | (simp [putAt]; done)) rfl) (cj (by constructor)) zN zS ?_ ?_
        ·rw [hV]
         exact zW
        exact Wk.of_eq (vi hE.symm)
       have hg : (ax f.ss (p.ch, p.ln)).isSome = true := by simpa using hc
       have hE1 : eu t f p = 0 := by simp [eu, hh, hp1, hg]
       have hE : gw t e f r = 0 := hE0.trans hE1
       have hV : gl t e f r = rfV (ax f.ss) p := by
        obtain ⟨v, hv⟩ := Option.isSome_iff_exists.1 hg
        simp [gl, hE, hp, ix, hE1, rfV, hv]
       refine aw ?_
       refine K10 _ ?_
       refine yS fun _ K13 => ?_
       refine yR ?_
       try dsimp only [St.put]
       refine af rfl (dc rfl rfl zG trivial (by rfl)) ?_
       try dsimp only [St.put]
       refine ae rfl (ay rfl rfl rfl zG rfl rfl (by rfl) ?_)
       refine yA rfl rfl ?_
       refine yN ?_
       dsimp only [St.put]
       refine K13 _ ?_
       refine am ?_
       refine dv rfl (et rfl zG (by rfl) (by first | exact List.cons_ne_nil _ _ | (simp; done) | (simp [putAt]; done)) rfl) (cj (by constructor)) zN zS ?_ ?_
       ·rw [hV]
        exact zW
       exact Wk.of_eq (vi hE.symm)
      exact bj
     exact bj
    refine bc ?_ ?_
    ·try dsimp only [St.put]
     refine br rfl rfl rfl (bp rfl ?_)
     refine bk [4] (by kernel_rfl) (by simp) ?_
     refine bc ?_ ?_
     ·try dsimp only [St.put]
      refine br rfl rfl rfl (f8 rfl rfl rfl (pd t f _ _ _ (ax f.ss) p (by omega) _ _ (by dsimp only [St.put]; omega) (by dsimp only [St.put]; omega) zG) ?_)
      refine cq [(5, none), (6, none), (7, none)] (fun i => [5, 6, 7].contains i) 2 [true, true, true, true, true, true, true, true, true, false, false] (by kernel_rfl) ?_
      refine xM rfl rfl rfl rfl rfl ?_
      refine ah rfl rfl rfl rfl (c7 rfl rfl rfl) ?_
      refine ah rfl rfl rfl rfl (c7 rfl rfl rfl) ?_
      refine bu ?_
      refine bk [9] (by kernel_rfl) (by simp) ?_
      refine bc ?_ ?_
      ·try dsimp only [St.put]
       refine br rfl rfl rfl (ay rfl rfl rfl zG rfl rfl (by rfl) ?_)
       refine cq [(10, none)] (fun i => [10].contains i) 0 [true, true, true, true, true, true, true, true, true, true, true] (by kernel_rfl) ?_
       refine ah rfl rfl rfl rfl (cg rfl (by constructor)) ?_
       refine bu ?_
       dsimp only [St.put]
       refine gk (by kernel_rfl) ?_
       refine K9 _ ?_
       refine yS fun _ K14 => ?_
       refine yS fun _ K15 => ?_
       refine yR ?_
       refine yM rfl rfl ?_
       refine aa rfl (dn rfl rfl) ?_
       refine yN ?_
       dsimp only [St.put]
       refine K15 _ ?_
       refine al rfl (fun hc => ?_) (fun hc => ?_)
       ·have hg : ax f.ss (p.ch, p.ln) = none := by simpa using hc
        have hE1 : eu t f p = 6 := by simp [eu, hh, hp1, hg]
        have hE : gw t e f r = 6 := hE0.trans hE1
        have hV : gl t e f r = ⟨0, 0, 0⟩ := by simp [gl, hE]
        refine yS fun _ K16 => ?_
        refine yR ?_
        refine aa rfl (du rfl rfl) ?_
        try dsimp only [St.put]
        refine ae rfl (ay rfl rfl rfl zG rfl rfl (by rfl) ?_)
        refine yA rfl rfl ?_
        refine yN ?_
        dsimp only [St.put]
        refine K16 _ ?_
        refine am ?_
        refine dv rfl (et rfl zG (by rfl) (by first | exact List.cons_ne_nil _ _ | (simp; done) | (simp [putAt]; done)) rfl) (cj (by constructor)) zN zS ?_ ?_
        ·rw [hV]
         exact zW
        exact Wk.of_eq (vi hE.symm)
       have hg : (ax f.ss (p.ch, p.ln)).isSome = true := by simpa using hc
       have hE1 : eu t f p = 0 := by simp [eu, hh, hp1, hg]
       have hE : gw t e f r = 0 := hE0.trans hE1
       have hV : gl t e f r = rfV (ax f.ss) p := by
        obtain ⟨v, hv⟩ := Option.isSome_iff_exists.1 hg
        simp [gl, hE, hp, ix, hE1, rfV, hv]
       refine aw ?_
       refine K14 _ ?_
       refine yS fun _ K17 => ?_
       refine yR ?_
       try dsimp only [St.put]
       refine af rfl (dc rfl rfl zG trivial (by rfl)) ?_
       try dsimp only [St.put]
       refine ae rfl (ay rfl rfl rfl zG rfl rfl (by rfl) ?_)
       refine yA rfl rfl ?_
       refine yN ?_
       dsimp only [St.put]
       refine K17 _ ?_
       refine am ?_
       refine dv rfl (et rfl zG (by rfl) (by first | exact List.cons_ne_nil _ _ | (simp; done) | (simp [putAt]; done)) rfl) (cj (by constructor)) zN zS ?_ ?_
       ·rw [hV]
        exact zW
       exact Wk.of_eq (vi hE.symm)
      exact bj
     exact bj
    exact bj
   exact bj
  exact bj
 refine bc ?_ ?_
 ·try dsimp only [St.put]
  refine br rfl rfl rfl (bp rfl ?_)
  refine bk [4] (by kernel_rfl) (by simp) ?_
  refine bc ?_ ?_
  ·try dsimp only [St.put]
   refine br rfl rfl rfl (f8 rfl rfl rfl (rp t e _ _ _ (cn e.ss) r hS.tx (rq hS) hr _ _ (by dsimp only [St.put]; omega) (by dsimp only [St.put]; omega) zG) ?_)
   refine cq [(5, none), (6, none), (7, none)] (fun i => [5, 6, 7].contains i) 2 [true, true, true, true, true, true, true, true, true, false, false] (by kernel_rfl) ?_
   refine xM rfl rfl rfl rfl rfl ?_
   refine ah rfl rfl rfl rfl (c7 rfl rfl rfl) ?_
   refine ah rfl rfl rfl rfl (c7 rfl rfl rfl) ?_
   refine bu ?_
   refine bk [9] (by kernel_rfl) (by simp) ?_
   refine bc ?_ ?_
   ·try dsimp only [St.put]
    refine br rfl rfl rfl (ay rfl rfl rfl zG rfl rfl (by rfl) ?_)
    refine cq [(10, none)] (fun i => [10].contains i) 0 [true, true, true, true, true, true, true, true, true, true, true] (by kernel_rfl) ?_
    refine ah rfl rfl rfl rfl (cg rfl (by constructor)) ?_
    refine bu ?_
    dsimp only [St.put]
    refine rx (qp (i := 12) rfl zG (by first | exact List.cons_ne_nil _ _ | (simp; done) | (simp [putAt]; done))) ?_
    dsimp only
    refine gk (by kernel_rfl) ?_
    refine K5 _ ?_
    refine yS fun _ K18 => ?_
    refine yS fun _ K19 => ?_
    refine yR ?_
    refine yM rfl rfl ?_
    refine aa rfl (dn rfl rfl) ?_
    refine yN ?_
    dsimp only [St.put]
    refine K19 _ ?_
    refine al rfl (fun hc => ?_) (fun hc => ?_)
    ·have hf : iv t e.ss r = none := by simpa [j9] using hc
     have hE : gw t e f r = 6 := by simp [gw, j8, hb, hr, hf]
     have hV : gl t e f r = ⟨0, 0, 0⟩ := by simp [gl, hE]
     refine yS fun _ K20 => ?_
     refine yR ?_
     refine aa rfl (du rfl rfl) ?_
     try dsimp only [St.put]
     refine ae rfl (ay rfl rfl rfl zG rfl rfl (by rfl) ?_)
     refine yA rfl rfl ?_
     refine yN ?_
     dsimp only [St.put]
     refine K20 _ ?_
     refine am ?_
     refine dv rfl (et rfl zG (by rfl) (by first | exact List.cons_ne_nil _ _ | (simp; done) | (simp [putAt]; done)) rfl) (cj (by constructor)) zN zS ?_ ?_
     ·rw [hV]
      exact zW
     exact Wk.of_eq (vi hE.symm)
    have hf : (iv t e.ss r).isSome = true := by simpa [j9] using hc
    obtain ⟨p, hp⟩ := Option.isSome_iff_exists.1 hf
    obtain ⟨hp1, hp2, hp3⟩ := uay hS hr hp
    have hpd : (ldO t (cn e.ss) r).getD ⟨0, 0, 0⟩ = p := by rw [j9, hp]; rfl
    have hE0 : gw t e f r = eu t f p := by simp [gw, j8, hb, hr, hp]
    have hr' := hr
    simp only [gx, Bool.and_eq_true, inB_true] at hr'
    rw [hpd]
    refine aw ?_
    refine K18 _ ?_
    refine yS fun _ K21 => ?_
    refine la [(0, none), (1, none), (2, none), (3, none)] (fun _ => false) (fun i => [0, 1].contains i) 7 [true, true, true, true, false, false, false, false, false, false, false] (by kernel_rfl) (by kernel_rfl) ?_
    refine xM rfl rfl rfl rfl rfl ?_
    try dsimp only [St.put]
    refine ah rfl rfl rfl rfl (b7 (k := 1) rfl rfl rfl (by first | rfl | omega) rfl rfl) ?_
    try dsimp only [St.put]
    refine aj rfl rfl rfl rfl (a7 rfl rfl) ?_
    try dsimp only [St.put]
    refine aj rfl rfl rfl rfl (aq rfl rfl (Enc.len _)) ?_
    refine bu ?_
    refine bk [4, 8] (by kernel_rfl) (by simp) ?_
    refine bc ?_ ?_
    ·try dsimp only [St.put]
     refine br rfl rfl rfl (f8 rfl rfl rfl (pd t f _ _ _ (ax f.ss) p (by omega) _ _ (by dsimp only [St.put]; omega) (by dsimp only [St.put]; omega) zG) ?_)
     refine cq [(5, none), (6, none), (7, none)] (fun i => [5, 6, 7].contains i) 3 [true, true, true, true, true, true, true, true, false, false, false] (by kernel_rfl) ?_
     refine xM rfl rfl rfl rfl rfl ?_
     refine ah rfl rfl rfl rfl (c7 rfl rfl rfl) ?_
     refine ah rfl rfl rfl rfl (c7 rfl rfl rfl) ?_
     refine bu ?_
     refine bk [8] (by kernel_rfl) (by simp) ?_
     refine bc ?_ ?_
     ·try dsimp only [St.put]
      refine br rfl rfl rfl (bp rfl ?_)
      refine bk [9] (by kernel_rfl) (by simp) ?_
      refine bc ?_ ?_
      ·try dsimp only [St.put]
       refine br rfl rfl rfl (ay rfl rfl rfl zG rfl rfl (by rfl) ?_)
       refine cq [(10, none)] (fun i => [10].contains i) 0 [true, true, true, true, true, true, true, true, true, true, true] (by kernel_rfl) ?_
       refine ah rfl rfl rfl rfl (cg rfl (by constructor)) ?_
       refine bu ?_
       dsimp only [St.put]
       refine gk (by kernel_rfl) ?_
       refine K21 _ ?_
       refine yS fun _ K22 => ?_
       refine yS fun _ K23 => ?_
       refine yR ?_
       refine yM rfl rfl ?_
       refine aa rfl (dn rfl rfl) ?_
       refine yN ?_
       dsimp only [St.put]
       refine K23 _ ?_
       refine al rfl (fun hc => ?_) (fun hc => ?_)
       ·have hg : ax f.ss (p.ch, p.ln) = none := by simpa using hc
        have hE1 : eu t f p = 6 := by simp [eu, hh, hp1, hg]
        have hE : gw t e f r = 6 := hE0.trans hE1
        have hV : gl t e f r = ⟨0, 0, 0⟩ := by simp [gl, hE]
        refine yS fun _ K24 => ?_
        refine yR ?_
        refine aa rfl (du rfl rfl) ?_
        try dsimp only [St.put]
        refine ae rfl (ay rfl rfl rfl zG rfl rfl (by rfl) ?_)
        refine yA rfl rfl ?_
        refine yN ?_
        dsimp only [St.put]
        refine K24 _ ?_
        refine am ?_
        refine dv rfl (et rfl zG (by rfl) (by first | exact List.cons_ne_nil _ _ | (simp; done) | (simp [putAt]; done)) rfl) (cj (by constructor)) zN zS ?_ ?_
        ·rw [hV]
         exact zW
        exact Wk.of_eq (vi hE.symm)
       have hg : (ax f.ss (p.ch, p.ln)).isSome = true := by simpa using hc
       have hE1 : eu t f p = 0 := by simp [eu, hh, hp1, hg]
       have hE : gw t e f r = 0 := hE0.trans hE1
       have hV : gl t e f r = rfV (ax f.ss) p := by
        obtain ⟨v, hv⟩ := Option.isSome_iff_exists.1 hg
        simp [gl, hE, hp, ix, hE1, rfV, hv]
       refine aw ?_
       refine K22 _ ?_
       refine yS fun _ K25 => ?_
       refine yR ?_
       try dsimp only [St.put]
       refine af rfl (dc rfl rfl zG trivial (by rfl)) ?_
       try dsimp only [St.put]
       refine ae rfl (ay rfl rfl rfl zG rfl rfl (by rfl) ?_)
       refine yA rfl rfl ?_
       refine yN ?_
       dsimp only [St.put]
       refine K25 _ ?_
       refine am ?_
       refine dv rfl (et rfl zG (by rfl) (by first | exact List.cons_ne_nil _ _ | (simp; done) | (simp [putAt]; done)) rfl) (cj (by constructor)) zN zS ?_ ?_
       ·rw [hV]
        exact zW
       exact Wk.of_eq (vi hE.symm)
      exact bj
     exact bj
    refine bc ?_ ?_
    ·try dsimp only [St.put]
     refine br rfl rfl rfl (bp rfl ?_)
     refine bk [4] (by kernel_rfl) (by simp) ?_
     refine bc ?_ ?_
     ·try dsimp only [St.put]
      refine br rfl rfl rfl (f8 rfl rfl rfl (pd t f _ _ _ (ax f.ss) p (by omega) _ _ (by dsimp only [St.put]; omega) (by dsimp only [St.put]; omega) zG) ?_)
      refine cq [(5, none), (6, none), (7, none)] (fun i => [5, 6, 7].contains i) 2 [true, true, true, true, true, true, true, true, true, false, false] (by kernel_rfl) ?_
      refine xM rfl rfl rfl rfl rfl ?_
      refine ah rfl rfl rfl rfl (c7 rfl rfl rfl) ?_
      refine ah rfl rfl rfl rfl (c7 rfl rfl rfl) ?_
      refine bu ?_
      refine bk [9] (by kernel_rfl) (by simp) ?_
      refine bc ?_ ?_
      ·try dsimp only [St.put]
       refine br rfl rfl rfl (ay rfl rfl rfl zG rfl rfl (by rfl) ?_)
       refine cq [(10, none)] (fun i => [10].contains i) 0 [true, true, true, true, true, true, true, true, true, true, true] (by kernel_rfl) ?_
       refine ah rfl rfl rfl rfl (cg rfl (by constructor)) ?_
       refine bu ?_
       dsimp only [St.put]
       refine gk (by kernel_rfl) ?_
       refine K21 _ ?_
       refine yS fun _ K26 => ?_
       refine yS fun _ K27 => ?_
       refine yR ?_
       refine yM rfl rfl ?_
       refine aa rfl (dn rfl rfl) ?_
       refine yN ?_
       dsimp only [St.put]
       refine K27 _ ?_
       refine al rfl (fun hc => ?_) (fun hc => ?_)
       ·have hg : ax f.ss (p.ch, p.ln) = none := by simpa using hc
        have hE1 : eu t f p = 6 := by simp [eu, hh, hp1, hg]
        have hE : gw t e f r = 6 := hE0.trans hE1
        have hV : gl t e f r = ⟨0, 0, 0⟩ := by simp [gl, hE]
        refine yS fun _ K28 => ?_
        refine yR ?_
        refine aa rfl (du rfl rfl) ?_
        try dsimp only [St.put]
        refine ae rfl (ay rfl rfl rfl zG rfl rfl (by rfl) ?_)
        refine yA rfl rfl ?_
        refine yN ?_
        dsimp only [St.put]
        refine K28 _ ?_
        refine am ?_
        refine dv rfl (et rfl zG (by rfl) (by first | exact List.cons_ne_nil _ _ | (simp; done) | (simp [putAt]; done)) rfl) (cj (by constructor)) zN zS ?_ ?_
        ·rw [hV]
         exact zW
        exact Wk.of_eq (vi hE.symm)
       have hg : (ax f.ss (p.ch, p.ln)).isSome = true := by simpa using hc
       have hE1 : eu t f p = 0 := by simp [eu, hh, hp1, hg]
       have hE : gw t e f r = 0 := hE0.trans hE1
       have hV : gl t e f r = rfV (ax f.ss) p := by
        obtain ⟨v, hv⟩ := Option.isSome_iff_exists.1 hg
        simp [gl, hE, hp, ix, hE1, rfV, hv]
       refine aw ?_
       refine K26 _ ?_
       refine yS fun _ K29 => ?_
       refine yR ?_
       try dsimp only [St.put]
       refine af rfl (dc rfl rfl zG trivial (by rfl)) ?_
       try dsimp only [St.put]
       refine ae rfl (ay rfl rfl rfl zG rfl rfl (by rfl) ?_)
       refine yA rfl rfl ?_
       refine yN ?_
       dsimp only [St.put]
       refine K29 _ ?_
       refine am ?_
       refine dv rfl (et rfl zG (by rfl) (by first | exact List.cons_ne_nil _ _ | (simp; done) | (simp [putAt]; done)) rfl) (cj (by constructor)) zN zS ?_ ?_
       ·rw [hV]
        exact zW
       exact Wk.of_eq (vi hE.symm)
      exact bj
     exact bj
    exact bj
   exact bj
  exact bj
 exact bj
theorem uk9 (t : ai) (e f : av) (r : dm) (hl : e.ss.length ≤ 20) (hlf : f.ss.length ≤ 20) :
  da cv Tryz.prog 26 [b8 t, val e, val f, val r] (.tup [val (gl t e f r), .v (.int .i64 (gw t e f r))]) := by
 by_cases h : gh t e f = 0
 ·cases hr : gx r with
  | true => exact ula t e f r hl hlf h hr
  | false =>
   have hE : gw t e f r = 2 := by simp [gw, j8, h, hr]
   have hV : gl t e f r = ⟨0, 0, 0⟩ := by simp [gl, hE]
   rw [hV, hE]
   obtain ⟨h1, h2⟩ := xk h
   exact ucl t e f r 2 (by decide) (ugl t e f r hl hlf h1 h2 hr)
 have hE : gw t e f r = gh t e f := by simp [gw, h]
 have hV : gl t e f r = ⟨0, 0, 0⟩ := by simp [gl, hE, h]
 rw [hV, hE]
 exact ucl t e f r _ h (vc t r [e, f] _ h (yo t e f hl hlf h))
end Go.Proofs.YtjjklfgpffgnfaaGreatDoor
