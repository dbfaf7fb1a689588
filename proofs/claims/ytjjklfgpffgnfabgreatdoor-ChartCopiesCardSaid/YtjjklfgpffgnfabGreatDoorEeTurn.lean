/-
 Contracts of the program's functions of charts: two sound editions; references of one in the other one.
-/
import Derived.Test.YtjjklfgpffgnfabGreatDoorEdLead
namespace Go.Proofs.YtjjklfgpffgnfabGreatDoor
set_option maxRecDepth 10000
open Go.RowKit Go.AB
open Go.AB.Enc (cells)
open Go.PB (bh af PlaceD ar bp cj)
theorem ufb (t : af) (e : aw) {n m k : Nat} (hn : n < k) (hm : m < k) : (C.elem (gg t e n m)).low k :=
 .elem (am .v (am (bd _ _) (am (bd _ _) (am (.map hn) (am (.map hm) bn)))))
theorem ufa {t : af} {e f : aw} (nx : Nat) : (C.list [[(.elem (gg t e (nx + 1 + 1 + 1 + 1) (nx + 1 + 1 + 1 + 1 + 1)))], [(.elem (gg t f (nx + 1 + 1 + 1 + 1 + 1 + 1 + 1) (nx + 1 + 1 + 1 + 1 + 1 + 1 + 1 + 1)))]] .none).low ((nx + 1 + 1 + 1 + 1 + 1 + 1 + 1 + 1 + 1)) :=
 .list (by
  intro r hr c hc
  simp only [List.mem_cons, List.not_mem_nil, or_false] at hr
  rcases hr with rfl | rfl <;> (rw [List.mem_singleton] at hc; subst hc; exact ufb _ _ (by omega) (by omega))) (by simp)
theorem ugk {es fs : List StretchD} {G : Nat → Option GObj} {nx : Nat} (y : (Nat × Nat) × (Nat × Nat)) : ∀ n o, (ah (ah (ah (ah G (nx + 1 + 1 + 1 + 1) (bl Tryz.prog 95 y.1.1 (a8 (av es)))) (nx + 1 + 1 + 1 + 1 + 1) (bl Tryz.prog 95 y.1.2 (a8 (cn es)))) (nx + 1 + 1 + 1 + 1 + 1 + 1 + 1) (bl Tryz.prog 95 y.2.1 (a8 (av fs)))) (nx + 1 + 1 + 1 + 1 + 1 + 1 + 1 + 1) (bl Tryz.prog 95 y.2.2 (a8 (cn fs)))) n = some o → G n = some o ∨ (n < (nx + 1 + 1 + 1 + 1 + 1 + 1 + 1 + 1 + 1) ∧ o.low ((nx + 1 + 1 + 1 + 1 + 1 + 1 + 1 + 1 + 1))) :=
 f9 (f9 (f9 (f9 (gw fun n o h => h) (by omega) (gd (fo _ _))) (by omega) (gd (fo _ _))) (by omega) (gd (fo _ _))) (by omega) (gd (fo _ _))
theorem ww (t : af) (e f : aw) (hl : e.ss.length ≤ 20) (hlf : f.ss.length ≤ 20) (h : cb t e = 0) (hh : cb t f = 0) (G : Nat → Option GObj) (nx : Nat) (hF : G 0 = some cr) :
  PC Tryz.prog 52 [b7 t, lst [e, f]] G nx fun r G' nx' => ∃ y : (Nat × Nat) × (Nat × Nat), r = .tup [.list [[(.elem (gg t e (nx + 1 + 1 + 1 + 1) (nx + 1 + 1 + 1 + 1 + 1)))], [(.elem (gg t f (nx + 1 + 1 + 1 + 1 + 1 + 1 + 1) (nx + 1 + 1 + 1 + 1 + 1 + 1 + 1 + 1)))]] .none, .v (.int .i64 0)] ∧ G' = (ah (ah (ah (ah G (nx + 1 + 1 + 1 + 1) (bl Tryz.prog 95 y.1.1 (a8 (av e.ss)))) (nx + 1 + 1 + 1 + 1 + 1) (bl Tryz.prog 95 y.1.2 (a8 (cn e.ss)))) (nx + 1 + 1 + 1 + 1 + 1 + 1 + 1) (bl Tryz.prog 95 y.2.1 (a8 (av f.ss)))) (nx + 1 + 1 + 1 + 1 + 1 + 1 + 1 + 1) (bl Tryz.prog 95 y.2.2 (a8 (cn f.ss)))) ∧ nx' = (nx + 1 + 1 + 1 + 1 + 1 + 1 + 1 + 1 + 1) := by
 refine qg (fun (y : (Nat × Nat) × (Nat × Nat)) => (ah (ah (ah (ah G (nx + 1 + 1 + 1 + 1) (bl Tryz.prog 95 y.1.1 (a8 (av e.ss)))) (nx + 1 + 1 + 1 + 1 + 1) (bl Tryz.prog 95 y.1.2 (a8 (cn e.ss)))) (nx + 1 + 1 + 1 + 1 + 1 + 1 + 1) (bl Tryz.prog 95 y.2.1 (a8 (av f.ss)))) (nx + 1 + 1 + 1 + 1 + 1 + 1 + 1 + 1) (bl Tryz.prog 95 y.2.2 (a8 (cn f.ss))))) ((nx + 1 + 1 + 1 + 1 + 1 + 1 + 1 + 1 + 1)) Tryz.func52 rfl (.tup (am (ufa _) (am .v bn))) zN (fun hlt y => (by (repeat' (refine f9 ?_ (by (try dsimp only); omega) ?_)); all_goals (first | exact gw zS | (repeat' (first | exact trivial | refine ⟨?_, ?_⟩ | exact .v | exact .any | refine .elem ?_ | exact bd _ _ | exact ed _ _ | exact da _ _ | exact eg _ (by (try dsimp only); omega) | exact .box (by (try dsimp only); omega) | exact dp | exact bn | exact gd (fo _ _) | refine ef ?_ ?_ | exact .arr (by (try dsimp only); omega) | exact .own (by (try dsimp only); omega) | exact .map (by (try dsimp only); omega) | exact du _ | refine am ?_ ?_ | exact bd _ _))))) ?_
 simp only [Tryz.ntmps52, List.length_cons, List.length_nil, Nat.reduceAdd, Nat.reduceSub]
 refine bf fun hlt => ?_
 dsimp only at hlt
 have hnx := hlt 0 _ hF
 obtain ⟨h0, hf⟩ := lp h
 obtain ⟨ht, hl12, he⟩ := k8 h0
 obtain ⟨hh0, hhf⟩ := lp hh
 obtain ⟨_, hhl12, hhe⟩ := k8 hh0
 have hx : ([e, f] : List aw)[0]? = some e := rfl
 have hy : ([e, f] : List aw)[1]? = some f := rfl
 refine yS fun _ K1 => ?_
 refine yR ?_
 try dsimp only [St.put]
 refine yB rfl rfl rfl ?_
 refine yA rfl rfl ?_
 refine yA rfl rfl ?_
 refine yN ?_
 dsimp only [St.put]
 refine K1 _ ?_
 refine yS fun _ K2 => ?_
 refine yS fun _ K3 => ?_
 refine yR ?_
 refine yM rfl rfl ?_
 refine aa rfl (bx rfl rfl (List.length_map _)) ?_
 refine yM rfl rfl ?_
 refine yN ?_
 dsimp only [St.put]
 refine K3 _ ?_
 refine bg ?_
 refine lk 3 ?_
 refine gz fun KR4_0 hKR4_0 => ?_
 refine yS fun _ K5 => ?_
 refine yR ?_
 refine aa rfl (br (c := true) (ck rfl rfl rfl) (by rfl)) ?_
 refine yN ?_
 dsimp only [St.put]
 refine K5 _ ?_
 refine yS fun _ K6 => ?_
 refine ak rfl (fun _ => ?_) (fun h => by cases h)
 refine aq ?_
 refine K6 _ ?_
 refine yS fun _ K7 => ?_
 refine bg ?_
 refine yS fun _ K8 => ?_
 refine yR ?_
 try dsimp only [St.put]
 refine aa rfl (b8 (k := 0) rfl rfl rfl (by first | rfl | omega) (cg hx) (Enc.len _)) ?_
 refine yE rfl rfl rfl ?_
 try dsimp only [St.put]
 refine ae rfl (bj rfl ?_)
 try dsimp only [St.put]
 refine ae rfl (ax rfl rfl rfl zG rfl rfl (by rfl) ?_)
 refine yN ?_
 dsimp only [St.put]
 refine K8 _ ?_
 refine cw (i := 7) rfl zG (by first | exact List.cons_ne_nil _ _ | (simp; done) | (simp [putAt]; done)) ?_
 dsimp only
 refine yS fun _ K9 => ?_
 refine yR ?_
 try dsimp only [St.put]
 refine ba rfl (bk rfl rfl rfl) ?_
 refine yE rfl rfl rfl ?_
 try dsimp only [St.put]
 refine ae rfl (dq rfl rfl rfl (ko t e hl) zG ?_)
 refine yA rfl rfl ?_
 refine yN ?_
 dsimp only [St.put]
 refine K9 _ ?_
 refine yS fun _ K10 => ?_
 refine yR ?_
 refine yM rfl rfl ?_
 refine aa rfl (br (c := false) (cz rfl rfl rfl) (j8 h0)) ?_
 refine yN ?_
 dsimp only [St.put]
 refine K10 _ ?_
 refine ak rfl (fun h => by cases h) (fun _ => ?_)
 refine aq ?_
 refine K7 _ ?_
 refine yR ?_
 refine aa rfl (ca rfl rfl rfl (by omega)) ?_
 refine yM rfl rfl ?_
 refine yN ?_
 dsimp only [St.put]
 refine hKR4_0 _ ?_
 refine gz fun KR4_1 hKR4_1 => ?_
 refine yS fun _ K11 => ?_
 refine yR ?_
 refine aa rfl (br (c := true) (ck rfl rfl rfl) (by rfl)) ?_
 refine yN ?_
 dsimp only [St.put]
 refine K11 _ ?_
 refine yS fun _ K12 => ?_
 refine ak rfl (fun _ => ?_) (fun h => by cases h)
 refine aq ?_
 refine K12 _ ?_
 refine yS fun _ K13 => ?_
 refine bg ?_
 refine yS fun _ K14 => ?_
 refine yR ?_
 try dsimp only [St.put]
 refine aa rfl (b8 (k := 1) rfl rfl rfl (by first | rfl | omega) (cg hy) (Enc.len _)) ?_
 refine yE rfl rfl rfl ?_
 try dsimp only [St.put]
 refine ae rfl (bj rfl ?_)
 try dsimp only [St.put]
 refine ae rfl (ax rfl rfl rfl zG rfl rfl (by rfl) ?_)
 refine yN ?_
 dsimp only [St.put]
 refine K14 _ ?_
 refine cw (i := 7) rfl zG (by first | exact List.cons_ne_nil _ _ | (simp; done) | (simp [putAt]; done)) ?_
 dsimp only
 refine yS fun _ K15 => ?_
 refine yR ?_
 try dsimp only [St.put]
 refine ba rfl (bk rfl rfl rfl) ?_
 refine yE rfl rfl rfl ?_
 try dsimp only [St.put]
 refine ae rfl (dq rfl rfl rfl (ko t f hlf) zG ?_)
 refine yA rfl rfl ?_
 refine yN ?_
 dsimp only [St.put]
 refine K15 _ ?_
 refine yS fun _ K16 => ?_
 refine yR ?_
 refine yM rfl rfl ?_
 refine aa rfl (br (c := false) (cz rfl rfl rfl) (j8 hh0)) ?_
 refine yN ?_
 dsimp only [St.put]
 refine K16 _ ?_
 refine ak rfl (fun h => by cases h) (fun _ => ?_)
 refine aq ?_
 refine K13 _ ?_
 refine yR ?_
 refine aa rfl (ca rfl rfl rfl (by omega)) ?_
 refine yM rfl rfl ?_
 refine yN ?_
 dsimp only [St.put]
 refine hKR4_1 _ ?_
 refine gz fun KR4_2 hKR4_2 => ?_
 refine yS fun _ K17 => ?_
 refine yR ?_
 refine aa rfl (br (c := false) (ck rfl rfl rfl) (by rfl)) ?_
 refine yN ?_
 dsimp only [St.put]
 refine K17 _ ?_
 refine yS fun _ K18 => ?_
 refine ak rfl (fun h => by cases h) (fun _ => ?_)
 refine dl ?_
 refine K2 _ ?_
 refine yS fun _ K19 => ?_
 refine yR ?_
 refine yA rfl rfl ?_
 refine yN ?_
 dsimp only [St.put]
 refine K19 _ ?_
 refine vt 9 84 1 rfl (by decide) ?_
 dsimp only [List.set_cons_zero, List.set_cons_succ]
 refine yS fun _ K20 => ?_
 refine yS fun _ K21 => ?_
 refine yR ?_
 refine yM rfl rfl ?_
 refine aa rfl (bx rfl rfl (List.length_map _)) ?_
 refine yM rfl rfl ?_
 refine yN ?_
 dsimp only [St.put]
 refine K21 _ ?_
 refine bg ?_
 refine lk 3 ?_
 refine gz fun KR22_0 hKR22_0 => ?_
 refine yS fun _ K23 => ?_
 refine yR ?_
 refine aa rfl (br (c := true) (ck rfl rfl rfl) (by rfl)) ?_
 refine yN ?_
 dsimp only [St.put]
 refine K23 _ ?_
 refine yS fun _ K24 => ?_
 refine ak rfl (fun _ => ?_) (fun h => by cases h)
 refine aq ?_
 refine K24 _ ?_
 refine yS fun _ K25 => ?_
 refine bg ?_
 refine yS fun _ K26 => ?_
 refine yR ?_
 try dsimp only [St.put]
 refine aa rfl (b8 (k := 0) rfl rfl rfl (by first | rfl | omega) (cg hx) (Enc.len _)) ?_
 refine yE rfl rfl rfl ?_
 try dsimp only [St.put]
 refine ae rfl (bj rfl ?_)
 try dsimp only [St.put]
 refine ae rfl (ax rfl rfl rfl zG rfl rfl (by rfl) ?_)
 refine yN ?_
 dsimp only [St.put]
 refine K26 _ ?_
 refine cw (i := 11) rfl zG (by first | exact List.cons_ne_nil _ _ | (simp; done) | (simp [putAt]; done)) ?_
 dsimp only
 refine yS fun _ K27 => ?_
 refine yR ?_
 try dsimp only [St.put]
 refine ba rfl (bk rfl rfl rfl) ?_
 refine yE rfl rfl rfl ?_
 try dsimp only [St.put]
 refine ae rfl (iy rfl rfl rfl (nd t e hl12 he _ _) (fun y => ?_))
 refine yM rfl rfl ?_
 refine yX rfl rfl rfl rfl ?_
 refine yX rfl rfl rfl rfl ?_
 refine yX rfl rfl rfl rfl ?_
 refine yX rfl rfl rfl rfl ?_
 refine yA rfl rfl ?_
 refine yA rfl rfl ?_
 refine yA rfl rfl ?_
 refine yA rfl rfl ?_
 refine yN ?_
 dsimp only [St.put]
 refine K27 _ ?_
 refine yS fun _ K28 => ?_
 refine yS fun _ K29 => ?_
 refine yR ?_
 refine aa rfl (br (c := false) (i2 rfl (by constructor)) (by rw [hf]; rfl)) ?_
 refine yN ?_
 dsimp only [St.put]
 refine K29 _ ?_
 refine ak rfl (fun h => by cases h) (fun _ => ?_)
 refine aq ?_
 refine K28 _ ?_
 refine yR ?_
 refine yM rfl rfl ?_
 refine yM rfl rfl ?_
 try dsimp only [St.put]
 refine ae rfl (cq rfl rfl rfl (by decide) (by decide) zR (by decide) ?_)
 try dsimp only [St.put]
 refine ae rfl (vk rfl rfl zG rfl zR zR (by first | (show 1 * _ ≤ _; decide) | (show 2 * _ ≤ _; decide)) (by first | (show 1 ≤ _; decide) | (show 2 ≤ _; decide)) ?_)
 refine yA rfl rfl ?_
 refine yN ?_
 dsimp only [St.put]
 refine K25 _ ?_
 refine yR ?_
 refine aa rfl (ca rfl rfl rfl (by omega)) ?_
 refine yM rfl rfl ?_
 refine yN ?_
 dsimp only [St.put]
 refine hKR22_0 _ ?_
 refine gz fun KR22_1 hKR22_1 => ?_
 refine yS fun _ K30 => ?_
 refine yR ?_
 refine aa rfl (br (c := true) (ck rfl rfl rfl) (by rfl)) ?_
 refine yN ?_
 dsimp only [St.put]
 refine K30 _ ?_
 refine yS fun _ K31 => ?_
 refine ak rfl (fun _ => ?_) (fun h => by cases h)
 refine aq ?_
 refine K31 _ ?_
 refine yS fun _ K32 => ?_
 refine bg ?_
 refine yS fun _ K33 => ?_
 refine yR ?_
 try dsimp only [St.put]
 refine aa rfl (b8 (k := 1) rfl rfl rfl (by first | rfl | omega) (cg hy) (Enc.len _)) ?_
 refine yE rfl rfl rfl ?_
 try dsimp only [St.put]
 refine ae rfl (bj rfl ?_)
 try dsimp only [St.put]
 refine ae rfl (ax rfl rfl rfl zG rfl rfl (by rfl) ?_)
 refine yN ?_
 dsimp only [St.put]
 refine K33 _ ?_
 refine cw (i := 11) rfl zG (by first | exact List.cons_ne_nil _ _ | (simp; done) | (simp [putAt]; done)) ?_
 dsimp only
 refine yS fun _ K34 => ?_
 refine yR ?_
 try dsimp only [St.put]
 refine ba rfl (bk rfl rfl rfl) ?_
 refine yE rfl rfl rfl ?_
 try dsimp only [St.put]
 refine ae rfl (iy rfl rfl rfl (nd t f hhl12 hhe _ _) (fun z => ?_))
 refine yM rfl rfl ?_
 refine yX rfl rfl rfl rfl ?_
 refine yX rfl rfl rfl rfl ?_
 refine yX rfl rfl rfl rfl ?_
 refine yX rfl rfl rfl rfl ?_
 refine yA rfl rfl ?_
 refine yA rfl rfl ?_
 refine yA rfl rfl ?_
 refine yA rfl rfl ?_
 refine yN ?_
 dsimp only [St.put]
 refine K34 _ ?_
 refine yS fun _ K35 => ?_
 refine yS fun _ K36 => ?_
 refine yR ?_
 refine aa rfl (br (c := false) (i2 rfl (by constructor)) (by rw [hhf]; rfl)) ?_
 refine yN ?_
 dsimp only [St.put]
 refine K36 _ ?_
 refine ak rfl (fun h => by cases h) (fun _ => ?_)
 refine aq ?_
 refine K35 _ ?_
 refine yR ?_
 refine yM rfl rfl ?_
 refine yM rfl rfl ?_
 try dsimp only [St.put]
 refine ae rfl (cq rfl rfl rfl (by decide) (by decide) zR (by decide) ?_)
 try dsimp only [St.put]
 refine ae rfl (vk rfl rfl zG rfl zR zR (by first | (show 1 * _ ≤ _; decide) | (show 2 * _ ≤ _; decide)) (by first | (show 1 ≤ _; decide) | (show 2 ≤ _; decide)) ?_)
 refine yA rfl rfl ?_
 refine yN ?_
 dsimp only [St.put]
 refine K32 _ ?_
 refine yR ?_
 refine aa rfl (ca rfl rfl rfl (by omega)) ?_
 refine yM rfl rfl ?_
 refine yN ?_
 dsimp only [St.put]
 refine hKR22_1 _ ?_
 refine gz fun KR22_2 hKR22_2 => ?_
 refine yS fun _ K37 => ?_
 refine yR ?_
 refine aa rfl (br (c := false) (ck rfl rfl rfl) (by rfl)) ?_
 refine yN ?_
 dsimp only [St.put]
 refine K37 _ ?_
 refine yS fun _ K38 => ?_
 refine ak rfl (fun h => by cases h) (fun _ => ?_)
 refine dl ?_
 refine K20 _ ?_
 refine yS fun _ K39 => ?_
 refine yR ?_
 refine yM rfl rfl ?_
 refine yA rfl rfl ?_
 refine yA rfl rfl ?_
 refine yN ?_
 dsimp only [St.put]
 refine K39 _ ?_
 refine aj ?_
 refine ⟨(y, z), ?_⟩
 refine dj rfl (ci (by constructor)) (ci (by constructor)) zN zX ?_ ?_
 ·exact zW
 exact zW
theorem uhq (t : af) (e f : aw) (hl : e.ss.length ≤ 20) (h0 : ct t e ≠ 0) :
  c8 cr Tryz.prog 52 [b7 t, lst [e, f]] (.tup [.list [] .nil, .v (.int .i64 (ct t e))]) := by
 refine fw Tryz.func52 rfl (fun m => .tup (am dp (am .v bn))) fun G nx hF => ?_
 simp only [Tryz.ntmps52, List.length_cons, List.length_nil, Nat.reduceAdd, Nat.reduceSub]
 refine bf fun hlt => ?_
 dsimp only at hlt
 have hnx := hlt 0 _ hF
 have hx : ([e, f] : List aw)[0]? = some e := rfl
 refine yS fun _ K1 => ?_
 refine yR ?_
 try dsimp only [St.put]
 refine yB rfl rfl rfl ?_
 refine yA rfl rfl ?_
 refine yA rfl rfl ?_
 refine yN ?_
 dsimp only [St.put]
 refine K1 _ ?_
 refine yS fun _ K2 => ?_
 refine yS fun _ K3 => ?_
 refine yR ?_
 refine yM rfl rfl ?_
 refine aa rfl (bx rfl rfl (List.length_map _)) ?_
 refine yM rfl rfl ?_
 refine yN ?_
 dsimp only [St.put]
 refine K3 _ ?_
 refine bg ?_
 refine lk 2 ?_
 refine gz fun KR4_0 hKR4_0 => ?_
 refine yS fun _ K5 => ?_
 refine yR ?_
 refine aa rfl (br (c := true) (ck rfl rfl rfl) (by rfl)) ?_
 refine yN ?_
 dsimp only [St.put]
 refine K5 _ ?_
 refine yS fun _ K6 => ?_
 refine ak rfl (fun _ => ?_) (fun h => by cases h)
 refine aq ?_
 refine K6 _ ?_
 refine yS fun _ K7 => ?_
 refine bg ?_
 refine yS fun _ K8 => ?_
 refine yR ?_
 try dsimp only [St.put]
 refine aa rfl (b8 (k := 0) rfl rfl rfl (by first | rfl | omega) (cg hx) (Enc.len _)) ?_
 refine yE rfl rfl rfl ?_
 try dsimp only [St.put]
 refine ae rfl (bj rfl ?_)
 try dsimp only [St.put]
 refine ae rfl (ax rfl rfl rfl zG rfl rfl (by rfl) ?_)
 refine yN ?_
 dsimp only [St.put]
 refine K8 _ ?_
 refine cw (i := 7) rfl zG (by first | exact List.cons_ne_nil _ _ | (simp; done) | (simp [putAt]; done)) ?_
 dsimp only
 refine yS fun _ K9 => ?_
 refine yR ?_
 try dsimp only [St.put]
 refine ba rfl (bk rfl rfl rfl) ?_
 refine yE rfl rfl rfl ?_
 try dsimp only [St.put]
 refine ae rfl (dq rfl rfl rfl (ko t e hl) zG ?_)
 refine yA rfl rfl ?_
 refine yN ?_
 dsimp only [St.put]
 refine K9 _ ?_
 refine yS fun _ K10 => ?_
 refine yR ?_
 refine yM rfl rfl ?_
 refine aa rfl (br (c := true) (cz rfl rfl rfl) (lf h0)) ?_
 refine yN ?_
 dsimp only [St.put]
 refine K10 _ ?_
 refine ak rfl (fun _ => ?_) (fun h => by cases h)
 refine yS fun _ K11 => ?_
 refine yR ?_
 refine yM rfl rfl ?_
 refine yA rfl rfl ?_
 refine yA rfl rfl ?_
 refine yN ?_
 dsimp only [St.put]
 refine K11 _ ?_
 refine aj ?_
 refine ix rfl (by constructor) (by constructor) zN zS ?_ ?_
 ·rfl
 rfl
theorem uhp (t : af) (e f : aw) (hl : e.ss.length ≤ 20) (hlf : f.ss.length ≤ 20) (h0 : ct t e = 0) (hh0 : ct t f ≠ 0) :
  c8 cr Tryz.prog 52 [b7 t, lst [e, f]] (.tup [.list [] .nil, .v (.int .i64 (ct t f))]) := by
 refine fw Tryz.func52 rfl (fun m => .tup (am dp (am .v bn))) fun G nx hF => ?_
 simp only [Tryz.ntmps52, List.length_cons, List.length_nil, Nat.reduceAdd, Nat.reduceSub]
 refine bf fun hlt => ?_
 dsimp only at hlt
 have hnx := hlt 0 _ hF
 have hx : ([e, f] : List aw)[0]? = some e := rfl
 have hy : ([e, f] : List aw)[1]? = some f := rfl
 refine yS fun _ K1 => ?_
 refine yR ?_
 try dsimp only [St.put]
 refine yB rfl rfl rfl ?_
 refine yA rfl rfl ?_
 refine yA rfl rfl ?_
 refine yN ?_
 dsimp only [St.put]
 refine K1 _ ?_
 refine yS fun _ K2 => ?_
 refine yS fun _ K3 => ?_
 refine yR ?_
 refine yM rfl rfl ?_
 refine aa rfl (bx rfl rfl (List.length_map _)) ?_
 refine yM rfl rfl ?_
 refine yN ?_
 dsimp only [St.put]
 refine K3 _ ?_
 refine bg ?_
 refine lk 2 ?_
 refine gz fun KR4_0 hKR4_0 => ?_
 refine yS fun _ K5 => ?_
 refine yR ?_
 (refine aa rfl (br (c := true) (ck rfl rfl rfl) (by rfl)) ?_)
 refine yN ?_
 dsimp only [St.put]
 refine K5 _ ?_
 refine yS fun _ K6 => ?_
 refine ak rfl (fun _ => ?_) (fun h => by cases h)
 refine aq ?_
 refine K6 _ ?_
 refine yS fun _ K7 => ?_
 refine bg ?_
 refine yS fun _ K8 => ?_
 refine yR ?_
 try dsimp only [St.put]
 (refine aa rfl (b8 (k := 0) rfl rfl rfl (by first | rfl | omega) (cg hx) (Enc.len _)) ?_)
 refine yE rfl rfl rfl ?_
 try dsimp only [St.put]
 refine ae rfl (bj rfl ?_)
 try dsimp only [St.put]
 refine ae rfl (ax rfl rfl rfl zG rfl rfl (by rfl) ?_)
 refine yN ?_
 dsimp only [St.put]
 refine K8 _ ?_
 refine cw (i := 7) rfl zG (by first | exact List.cons_ne_nil _ _ | (simp; done) | (simp [putAt]; done)) ?_
 dsimp only
 refine yS fun _ K9 => ?_
 refine yR ?_
 try dsimp only [St.put]
 refine ba rfl (bk rfl rfl rfl) ?_
 refine yE rfl rfl rfl ?_
 try dsimp only [St.put]
 refine ae rfl (dq rfl rfl rfl (ko t e hl) zG ?_)
 refine yA rfl rfl ?_
 refine yN ?_
 dsimp only [St.put]
 refine K9 _ ?_
 refine yS fun _ K10 => ?_
 refine yR ?_
 refine yM rfl rfl ?_
 (refine aa rfl (br (c := false) (cz rfl rfl rfl) ((j8 h0))) ?_)
 refine yN ?_
 dsimp only [St.put]
 refine K10 _ ?_
 refine ak rfl (fun h => by cases h) (fun _ => ?_)
 refine aq ?_
 refine K7 _ ?_
 refine yR ?_
 refine aa rfl (ca rfl rfl rfl (by omega)) ?_
 refine yM rfl rfl ?_
 refine yN ?_
 dsimp only [St.put]
 refine hKR4_0 _ ?_
 refine gz fun KR4_1 hKR4_1 => ?_
 refine yS fun _ K11 => ?_
 refine yR ?_
 (refine aa rfl (br (c := true) (ck rfl rfl rfl) (by rfl)) ?_)
 refine yN ?_
 dsimp only [St.put]
 refine K11 _ ?_
 refine yS fun _ K12 => ?_
 refine ak rfl (fun _ => ?_) (fun h => by cases h)
 refine aq ?_
 refine K12 _ ?_
 refine yS fun _ K13 => ?_
 refine bg ?_
 refine yS fun _ K14 => ?_
 refine yR ?_
 try dsimp only [St.put]
 (refine aa rfl (b8 (k := 1) rfl rfl rfl (by first | rfl | omega) (cg hy) (Enc.len _)) ?_)
 refine yE rfl rfl rfl ?_
 try dsimp only [St.put]
 refine ae rfl (bj rfl ?_)
 try dsimp only [St.put]
 refine ae rfl (ax rfl rfl rfl zG rfl rfl (by rfl) ?_)
 refine yN ?_
 dsimp only [St.put]
 refine K14 _ ?_
 refine cw (i := 7) rfl zG (by first | exact List.cons_ne_nil _ _ | (simp; done) | (simp [putAt]; done)) ?_
 dsimp only
 refine yS fun _ K15 => ?_
 refine yR ?_
 try dsimp only [St.put]
 refine ba rfl (bk rfl rfl rfl) ?_
 refine yE rfl rfl rfl ?_
 try dsimp only [St.put]
 refine ae rfl (dq rfl rfl rfl (ko t f hlf) zG ?_)
 refine yA rfl rfl ?_
 refine yN ?_
 dsimp only [St.put]
 refine K15 _ ?_
 refine yS fun _ K16 => ?_
 refine yR ?_
 refine yM rfl rfl ?_
 (refine aa rfl (br (c := true) (cz rfl rfl rfl) ((lf hh0))) ?_)
 refine yN ?_
 dsimp only [St.put]
 refine K16 _ ?_
 refine ak rfl (fun _ => ?_) (fun h => by cases h)
 refine yS fun _ K17 => ?_
 refine yR ?_
 refine yM rfl rfl ?_
 refine yA rfl rfl ?_
 refine yA rfl rfl ?_
 refine yN ?_
 dsimp only [St.put]
 refine K17 _ ?_
 refine aj ?_
 refine ix rfl (by constructor) (by constructor) zN zS ?_ ?_
 ·rfl
 rfl
theorem uho (t : af) (e f : aw) (hl : e.ss.length ≤ 20) (hlf : f.ss.length ≤ 20) (h0 : ct t e = 0) (hh0 : ct t f = 0) (hf : (ff e.ss).isSome = true) :
  c8 cr Tryz.prog 52 [b7 t, lst [e, f]] (.tup [.list [] .nil, .v (.int .i64 8)]) := by
 refine fw Tryz.func52 rfl (fun m => .tup (am dp (am .v bn))) fun G nx hF => ?_
 simp only [Tryz.ntmps52, List.length_cons, List.length_nil, Nat.reduceAdd, Nat.reduceSub]
 refine bf fun hlt => ?_
 dsimp only at hlt
 have hnx := hlt 0 _ hF
 obtain ⟨ht, hl12, he⟩ := k8 h0
 have hx : ([e, f] : List aw)[0]? = some e := rfl
 have hy : ([e, f] : List aw)[1]? = some f := rfl
 refine yS fun _ K1 => ?_
 refine yR ?_
 try dsimp only [St.put]
 refine yB rfl rfl rfl ?_
 refine yA rfl rfl ?_
 refine yA rfl rfl ?_
 refine yN ?_
 dsimp only [St.put]
 refine K1 _ ?_
 refine yS fun _ K2 => ?_
 refine yS fun _ K3 => ?_
 refine yR ?_
 refine yM rfl rfl ?_
 refine aa rfl (bx rfl rfl (List.length_map _)) ?_
 refine yM rfl rfl ?_
 refine yN ?_
 dsimp only [St.put]
 refine K3 _ ?_
 refine bg ?_
 refine lk 3 ?_
 refine gz fun KR4_0 hKR4_0 => ?_
 refine yS fun _ K5 => ?_
 refine yR ?_
 (refine aa rfl (br (c := true) (ck rfl rfl rfl) (by rfl)) ?_)
 refine yN ?_
 dsimp only [St.put]
 refine K5 _ ?_
 refine yS fun _ K6 => ?_
 refine ak rfl (fun _ => ?_) (fun h => by cases h)
 refine aq ?_
 refine K6 _ ?_
 refine yS fun _ K7 => ?_
 refine bg ?_
 refine yS fun _ K8 => ?_
 refine yR ?_
 try dsimp only [St.put]
 (refine aa rfl (b8 (k := 0) rfl rfl rfl (by first | rfl | omega) (cg hx) (Enc.len _)) ?_)
 refine yE rfl rfl rfl ?_
 try dsimp only [St.put]
 refine ae rfl (bj rfl ?_)
 try dsimp only [St.put]
 refine ae rfl (ax rfl rfl rfl zG rfl rfl (by rfl) ?_)
 refine yN ?_
 dsimp only [St.put]
 refine K8 _ ?_
 refine cw (i := 7) rfl zG (by first | exact List.cons_ne_nil _ _ | (simp; done) | (simp [putAt]; done)) ?_
 dsimp only
 refine yS fun _ K9 => ?_
 refine yR ?_
 try dsimp only [St.put]
 refine ba rfl (bk rfl rfl rfl) ?_
 refine yE rfl rfl rfl ?_
 try dsimp only [St.put]
 refine ae rfl (dq rfl rfl rfl (ko t e hl) zG ?_)
 refine yA rfl rfl ?_
 refine yN ?_
 dsimp only [St.put]
 refine K9 _ ?_
 refine yS fun _ K10 => ?_
 refine yR ?_
 refine yM rfl rfl ?_
 (refine aa rfl (br (c := false) (cz rfl rfl rfl) ((j8 h0))) ?_)
 refine yN ?_
 dsimp only [St.put]
 refine K10 _ ?_
 refine ak rfl (fun h => by cases h) (fun _ => ?_)
 refine aq ?_
 refine K7 _ ?_
 refine yR ?_
 refine aa rfl (ca rfl rfl rfl (by omega)) ?_
 refine yM rfl rfl ?_
 refine yN ?_
 dsimp only [St.put]
 refine hKR4_0 _ ?_
 refine gz fun KR4_1 hKR4_1 => ?_
 refine yS fun _ K11 => ?_
 refine yR ?_
 (refine aa rfl (br (c := true) (ck rfl rfl rfl) (by rfl)) ?_)
 refine yN ?_
 dsimp only [St.put]
 refine K11 _ ?_
 refine yS fun _ K12 => ?_
 refine ak rfl (fun _ => ?_) (fun h => by cases h)
 refine aq ?_
 refine K12 _ ?_
 refine yS fun _ K13 => ?_
 refine bg ?_
 refine yS fun _ K14 => ?_
 refine yR ?_
 try dsimp only [St.put]
 (refine aa rfl (b8 (k := 1) rfl rfl rfl (by first | rfl | omega) (cg hy) (Enc.len _)) ?_)
 refine yE rfl rfl rfl ?_
 try dsimp only [St.put]
 refine ae rfl (bj rfl ?_)
 try dsimp only [St.put]
 refine ae rfl (ax rfl rfl rfl zG rfl rfl (by rfl) ?_)
 refine yN ?_
 dsimp only [St.put]
 refine K14 _ ?_
 refine cw (i := 7) rfl zG (by first | exact List.cons_ne_nil _ _ | (simp; done) | (simp [putAt]; done)) ?_
 dsimp only
 refine yS fun _ K15 => ?_
 refine yR ?_
 try dsimp only [St.put]
 refine ba rfl (bk rfl rfl rfl) ?_
 refine yE rfl rfl rfl ?_
 try dsimp only [St.put]
 refine ae rfl (dq rfl rfl rfl (ko t f hlf) zG ?_)
 refine yA rfl rfl ?_
 refine yN ?_
 dsimp only [St.put]
 refine K15 _ ?_
 refine yS fun _ K16 => ?_
 refine yR ?_
 refine yM rfl rfl ?_
 (refine aa rfl (br (c := false) (cz rfl rfl rfl) ((j8 hh0))) ?_)
 refine yN ?_
 dsimp only [St.put]
 refine K16 _ ?_
 refine ak rfl (fun h => by cases h) (fun _ => ?_)
 refine aq ?_
 refine K13 _ ?_
 refine yR ?_
 refine aa rfl (ca rfl rfl rfl (by omega)) ?_
 refine yM rfl rfl ?_
 refine yN ?_
 dsimp only [St.put]
 refine hKR4_1 _ ?_
 refine gz fun KR4_2 hKR4_2 => ?_
 refine yS fun _ K17 => ?_
 refine yR ?_
 (refine aa rfl (br (c := false) (ck rfl rfl rfl) (by rfl)) ?_)
 refine yN ?_
 dsimp only [St.put]
 refine K17 _ ?_
 refine yS fun _ K18 => ?_
 refine ak rfl (fun h => by cases h) (fun _ => ?_)
 refine dl ?_
 refine K2 _ ?_
 refine yS fun _ K19 => ?_
 refine yR ?_
 refine yA rfl rfl ?_
 refine yN ?_
 dsimp only [St.put]
 refine K19 _ ?_
 refine vt 9 84 1 rfl (by decide) ?_
 dsimp only [List.set_cons_zero, List.set_cons_succ]
 refine yS fun _ K20 => ?_
 refine yS fun _ K21 => ?_
 refine yR ?_
 refine yM rfl rfl ?_
 refine aa rfl (bx rfl rfl (List.length_map _)) ?_
 refine yM rfl rfl ?_
 refine yN ?_
 dsimp only [St.put]
 refine K21 _ ?_
 refine bg ?_
 refine lk 2 ?_
 refine gz fun KR22_0 hKR22_0 => ?_
 refine yS fun _ K23 => ?_
 refine yR ?_
 (refine aa rfl (br (c := true) (ck rfl rfl rfl) (by rfl)) ?_)
 refine yN ?_
 dsimp only [St.put]
 refine K23 _ ?_
 refine yS fun _ K24 => ?_
 refine ak rfl (fun _ => ?_) (fun h => by cases h)
 refine aq ?_
 refine K24 _ ?_
 refine yS fun _ K25 => ?_
 refine bg ?_
 refine yS fun _ K26 => ?_
 refine yR ?_
 try dsimp only [St.put]
 (refine aa rfl (b8 (k := 0) rfl rfl rfl (by first | rfl | omega) (cg hx) (Enc.len _)) ?_)
 refine yE rfl rfl rfl ?_
 try dsimp only [St.put]
 refine ae rfl (bj rfl ?_)
 try dsimp only [St.put]
 refine ae rfl (ax rfl rfl rfl zG rfl rfl (by rfl) ?_)
 refine yN ?_
 dsimp only [St.put]
 refine K26 _ ?_
 refine cw (i := 11) rfl zG (by first | exact List.cons_ne_nil _ _ | (simp; done) | (simp [putAt]; done)) ?_
 dsimp only
 refine yS fun _ K27 => ?_
 refine yR ?_
 try dsimp only [St.put]
 refine ba rfl (bk rfl rfl rfl) ?_
 refine yE rfl rfl rfl ?_
 try dsimp only [St.put]
 refine ae rfl (iy rfl rfl rfl (nd t e hl12 he _ _) (fun y => ?_))
 refine yM rfl rfl ?_
 refine yX rfl rfl rfl rfl ?_
 refine yX rfl rfl rfl rfl ?_
 refine yX rfl rfl rfl rfl ?_
 refine yX rfl rfl rfl rfl ?_
 refine yA rfl rfl ?_
 refine yA rfl rfl ?_
 refine yA rfl rfl ?_
 refine yA rfl rfl ?_
 refine yN ?_
 dsimp only [St.put]
 refine K27 _ ?_
 refine yS fun _ K28 => ?_
 refine yS fun _ K29 => ?_
 refine yR ?_
 refine aa rfl (br (c := true) (i2 rfl (by constructor)) hf) ?_
 refine yN ?_
 dsimp only [St.put]
 refine K29 _ ?_
 refine ak rfl (fun _ => ?_) (fun h => by cases h)
 refine yS fun _ K30 => ?_
 refine yR ?_
 refine yA rfl rfl ?_
 refine yA rfl rfl ?_
 refine yN ?_
 dsimp only [St.put]
 refine K30 _ ?_
 refine aj ?_
 refine ix rfl (by constructor) (by constructor) zN zS ?_ ?_
 ·rfl
 rfl
theorem uhn (t : af) (e f : aw) (hl : e.ss.length ≤ 20) (hlf : f.ss.length ≤ 20) (h : cb t e = 0) (hh0 : ct t f = 0) (hhf : (ff f.ss).isSome = true) :
  c8 cr Tryz.prog 52 [b7 t, lst [e, f]] (.tup [.list [] .nil, .v (.int .i64 8)]) := by
 refine fw Tryz.func52 rfl (fun m => .tup (am dp (am .v bn))) fun G nx hF => ?_
 simp only [Tryz.ntmps52, List.length_cons, List.length_nil, Nat.reduceAdd, Nat.reduceSub]
 refine bf fun hlt => ?_
 dsimp only at hlt
 have hnx := hlt 0 _ hF
 obtain ⟨h0, hf⟩ := lp h
 obtain ⟨ht, hl12, he⟩ := k8 h0
 obtain ⟨_, hhl12, hhe⟩ := k8 hh0
 have hx : ([e, f] : List aw)[0]? = some e := rfl
 have hy : ([e, f] : List aw)[1]? = some f := rfl
 refine yS fun _ K1 => ?_
 refine yR ?_
 try dsimp only [St.put]
 refine yB rfl rfl rfl ?_
 refine yA rfl rfl ?_
 refine yA rfl rfl ?_
 refine yN ?_
 dsimp only [St.put]
 refine K1 _ ?_
 refine yS fun _ K2 => ?_
 refine yS fun _ K3 => ?_
 refine yR ?_
 refine yM rfl rfl ?_
 refine aa rfl (bx rfl rfl (List.length_map _)) ?_
 refine yM rfl rfl ?_
 refine yN ?_
 dsimp only [St.put]
 refine K3 _ ?_
 refine bg ?_
 refine lk 3 ?_
 refine gz fun KR4_0 hKR4_0 => ?_
 refine yS fun _ K5 => ?_
 refine yR ?_
 (refine aa rfl (br (c := true) (ck rfl rfl rfl) (by rfl)) ?_)
 refine yN ?_
 dsimp only [St.put]
 refine K5 _ ?_
 refine yS fun _ K6 => ?_
 refine ak rfl (fun _ => ?_) (fun h => by cases h)
 refine aq ?_
 refine K6 _ ?_
 refine yS fun _ K7 => ?_
 refine bg ?_
 refine yS fun _ K8 => ?_
 refine yR ?_
 try dsimp only [St.put]
 (refine aa rfl (b8 (k := 0) rfl rfl rfl (by first | rfl | omega) (cg hx) (Enc.len _)) ?_)
 refine yE rfl rfl rfl ?_
 try dsimp only [St.put]
 refine ae rfl (bj rfl ?_)
 try dsimp only [St.put]
 refine ae rfl (ax rfl rfl rfl zG rfl rfl (by rfl) ?_)
 refine yN ?_
 dsimp only [St.put]
 refine K8 _ ?_
 refine cw (i := 7) rfl zG (by first | exact List.cons_ne_nil _ _ | (simp; done) | (simp [putAt]; done)) ?_
 dsimp only
 refine yS fun _ K9 => ?_
 refine yR ?_
 try dsimp only [St.put]
 refine ba rfl (bk rfl rfl rfl) ?_
 refine yE rfl rfl rfl ?_
 try dsimp only [St.put]
 refine ae rfl (dq rfl rfl rfl (ko t e hl) zG ?_)
 refine yA rfl rfl ?_
 refine yN ?_
 dsimp only [St.put]
 refine K9 _ ?_
 refine yS fun _ K10 => ?_
 refine yR ?_
 refine yM rfl rfl ?_
 (refine aa rfl (br (c := false) (cz rfl rfl rfl) ((j8 h0))) ?_)
 refine yN ?_
 dsimp only [St.put]
 refine K10 _ ?_
 refine ak rfl (fun h => by cases h) (fun _ => ?_)
 refine aq ?_
 refine K7 _ ?_
 refine yR ?_
 refine aa rfl (ca rfl rfl rfl (by omega)) ?_
 refine yM rfl rfl ?_
 refine yN ?_
 dsimp only [St.put]
 refine hKR4_0 _ ?_
 refine gz fun KR4_1 hKR4_1 => ?_
 refine yS fun _ K11 => ?_
 refine yR ?_
 (refine aa rfl (br (c := true) (ck rfl rfl rfl) (by rfl)) ?_)
 refine yN ?_
 dsimp only [St.put]
 refine K11 _ ?_
 refine yS fun _ K12 => ?_
 refine ak rfl (fun _ => ?_) (fun h => by cases h)
 refine aq ?_
 refine K12 _ ?_
 refine yS fun _ K13 => ?_
 refine bg ?_
 refine yS fun _ K14 => ?_
 refine yR ?_
 try dsimp only [St.put]
 (refine aa rfl (b8 (k := 1) rfl rfl rfl (by first | rfl | omega) (cg hy) (Enc.len _)) ?_)
 refine yE rfl rfl rfl ?_
 try dsimp only [St.put]
 refine ae rfl (bj rfl ?_)
 try dsimp only [St.put]
 refine ae rfl (ax rfl rfl rfl zG rfl rfl (by rfl) ?_)
 refine yN ?_
 dsimp only [St.put]
 refine K14 _ ?_
 refine cw (i := 7) rfl zG (by first | exact List.cons_ne_nil _ _ | (simp; done) | (simp [putAt]; done)) ?_
 dsimp only
 refine yS fun _ K15 => ?_
 refine yR ?_
 try dsimp only [St.put]
 refine ba rfl (bk rfl rfl rfl) ?_
 refine yE rfl rfl rfl ?_
 try dsimp only [St.put]
 refine ae rfl (dq rfl rfl rfl (ko t f hlf) zG ?_)
 refine yA rfl rfl ?_
 refine yN ?_
 dsimp only [St.put]
 refine K15 _ ?_
 refine yS fun _ K16 => ?_
 refine yR ?_
 refine yM rfl rfl ?_
 (refine aa rfl (br (c := false) (cz rfl rfl rfl) ((j8 hh0))) ?_)
 refine yN ?_
 dsimp only [St.put]
 refine K16 _ ?_
 refine ak rfl (fun h => by cases h) (fun _ => ?_)
 refine aq ?_
 refine K13 _ ?_
 refine yR ?_
 refine aa rfl (ca rfl rfl rfl (by omega)) ?_
 refine yM rfl rfl ?_
 refine yN ?_
 dsimp only [St.put]
 refine hKR4_1 _ ?_
 refine gz fun KR4_2 hKR4_2 => ?_
 refine yS fun _ K17 => ?_
 refine yR ?_
 (refine aa rfl (br (c := false) (ck rfl rfl rfl) (by rfl)) ?_)
 refine yN ?_
 dsimp only [St.put]
 refine K17 _ ?_
 refine yS fun _ K18 => ?_
 refine ak rfl (fun h => by cases h) (fun _ => ?_)
 refine dl ?_
 refine K2 _ ?_
 refine yS fun _ K19 => ?_
 refine yR ?_
 refine yA rfl rfl ?_
 refine yN ?_
 dsimp only [St.put]
 refine K19 _ ?_
 refine vt 9 84 1 rfl (by decide) ?_
 dsimp only [List.set_cons_zero, List.set_cons_succ]
 refine yS fun _ K20 => ?_
 refine yS fun _ K21 => ?_
 refine yR ?_
 refine yM rfl rfl ?_
 refine aa rfl (bx rfl rfl (List.length_map _)) ?_
 refine yM rfl rfl ?_
 refine yN ?_
 dsimp only [St.put]
 refine K21 _ ?_
 refine bg ?_
 refine lk 3 ?_
 refine gz fun KR22_0 hKR22_0 => ?_
 refine yS fun _ K23 => ?_
 refine yR ?_
 (refine aa rfl (br (c := true) (ck rfl rfl rfl) (by rfl)) ?_)
 refine yN ?_
 dsimp only [St.put]
 refine K23 _ ?_
 refine yS fun _ K24 => ?_
 refine ak rfl (fun _ => ?_) (fun h => by cases h)
 refine aq ?_
 refine K24 _ ?_
 refine yS fun _ K25 => ?_
 refine bg ?_
 refine yS fun _ K26 => ?_
 refine yR ?_
 try dsimp only [St.put]
 (refine aa rfl (b8 (k := 0) rfl rfl rfl (by first | rfl | omega) (cg hx) (Enc.len _)) ?_)
 refine yE rfl rfl rfl ?_
 try dsimp only [St.put]
 refine ae rfl (bj rfl ?_)
 try dsimp only [St.put]
 refine ae rfl (ax rfl rfl rfl zG rfl rfl (by rfl) ?_)
 refine yN ?_
 dsimp only [St.put]
 refine K26 _ ?_
 refine cw (i := 11) rfl zG (by first | exact List.cons_ne_nil _ _ | (simp; done) | (simp [putAt]; done)) ?_
 dsimp only
 refine yS fun _ K27 => ?_
 refine yR ?_
 try dsimp only [St.put]
 refine ba rfl (bk rfl rfl rfl) ?_
 refine yE rfl rfl rfl ?_
 try dsimp only [St.put]
 refine ae rfl (iy rfl rfl rfl (nd t e hl12 he _ _) (fun y => ?_))
 refine yM rfl rfl ?_
 refine yX rfl rfl rfl rfl ?_
 refine yX rfl rfl rfl rfl ?_
 refine yX rfl rfl rfl rfl ?_
 refine yX rfl rfl rfl rfl ?_
 refine yA rfl rfl ?_
 refine yA rfl rfl ?_
 refine yA rfl rfl ?_
 refine yA rfl rfl ?_
 refine yN ?_
 dsimp only [St.put]
 refine K27 _ ?_
 refine yS fun _ K28 => ?_
 refine yS fun _ K29 => ?_
 refine yR ?_
 refine aa rfl (br (c := false) (i2 rfl (by constructor)) (by rw [hf]; rfl)) ?_
 refine yN ?_
 dsimp only [St.put]
 refine K29 _ ?_
 refine ak rfl (fun h => by cases h) (fun _ => ?_)
 refine aq ?_
 refine K28 _ ?_
 refine yR ?_
 refine yM rfl rfl ?_
 refine yM rfl rfl ?_
 try dsimp only [St.put]
 refine ae rfl (cq rfl rfl rfl (by decide) (by decide) zR (by decide) ?_)
 try dsimp only [St.put]
 (refine ae rfl (vk rfl rfl zG rfl zR zR (by first | (show 1 * _ ≤ _; decide) | (show 2 * _ ≤ _; decide)) (by first | (show 1 ≤ _; decide) | (show 2 ≤ _; decide)) ?_))
 refine yA rfl rfl ?_
 refine yN ?_
 dsimp only [St.put]
 refine K25 _ ?_
 refine yR ?_
 refine aa rfl (ca rfl rfl rfl (by omega)) ?_
 refine yM rfl rfl ?_
 refine yN ?_
 dsimp only [St.put]
 refine hKR22_0 _ ?_
 refine gz fun KR22_1 hKR22_1 => ?_
 refine yS fun _ K30 => ?_
 refine yR ?_
 (refine aa rfl (br (c := true) (ck rfl rfl rfl) (by rfl)) ?_)
 refine yN ?_
 dsimp only [St.put]
 refine K30 _ ?_
 refine yS fun _ K31 => ?_
 refine ak rfl (fun _ => ?_) (fun h => by cases h)
 refine aq ?_
 refine K31 _ ?_
 refine yS fun _ K32 => ?_
 refine bg ?_
 refine yS fun _ K33 => ?_
 refine yR ?_
 try dsimp only [St.put]
 (refine aa rfl (b8 (k := 1) rfl rfl rfl (by first | rfl | omega) (cg hy) (Enc.len _)) ?_)
 refine yE rfl rfl rfl ?_
 try dsimp only [St.put]
 refine ae rfl (bj rfl ?_)
 try dsimp only [St.put]
 refine ae rfl (ax rfl rfl rfl zG rfl rfl (by rfl) ?_)
 refine yN ?_
 dsimp only [St.put]
 refine K33 _ ?_
 refine cw (i := 11) rfl zG (by first | exact List.cons_ne_nil _ _ | (simp; done) | (simp [putAt]; done)) ?_
 dsimp only
 refine yS fun _ K34 => ?_
 refine yR ?_
 try dsimp only [St.put]
 refine ba rfl (bk rfl rfl rfl) ?_
 refine yE rfl rfl rfl ?_
 try dsimp only [St.put]
 refine ae rfl (iy rfl rfl rfl (nd t f hhl12 hhe _ _) (fun z => ?_))
 refine yM rfl rfl ?_
 refine yX rfl rfl rfl rfl ?_
 refine yX rfl rfl rfl rfl ?_
 refine yX rfl rfl rfl rfl ?_
 refine yX rfl rfl rfl rfl ?_
 refine yA rfl rfl ?_
 refine yA rfl rfl ?_
 refine yA rfl rfl ?_
 refine yA rfl rfl ?_
 refine yN ?_
 dsimp only [St.put]
 refine K34 _ ?_
 refine yS fun _ K35 => ?_
 refine yS fun _ K36 => ?_
 refine yR ?_
 refine aa rfl (br (c := true) (i2 rfl (by constructor)) hhf) ?_
 refine yN ?_
 dsimp only [St.put]
 refine K36 _ ?_
 refine ak rfl (fun _ => ?_) (fun h => by cases h)
 refine yS fun _ K37 => ?_
 refine yR ?_
 refine yA rfl rfl ?_
 refine yA rfl rfl ?_
 refine yN ?_
 dsimp only [St.put]
 refine K37 _ ?_
 refine aj ?_
 refine ix rfl (by constructor) (by constructor) zN zS ?_ ?_
 ·rfl
 rfl
theorem uah (t : af) (e f : aw) (hl : e.ss.length ≤ 20) (hlf : f.ss.length ≤ 20) (h : ge t e f ≠ 0) :
  c8 cr Tryz.prog 52 [b7 t, lst [e, f]] (.tup [.list [] .nil, .v (.int .i64 (ge t e f))]) := by
 rcases upw h with ⟨h1, h2⟩ | ⟨h1, h2, h3⟩ | ⟨h1, h2, h3, h4⟩ | ⟨h1, h2, h3, h4⟩
 ·rw [h2]; exact uhq t e f hl h1
 ·rw [h3]; exact uhp t e f hl hlf h1 h2
 ·rw [h4]; exact uho t e f hl hlf h1 h2 h3
 rw [h4]; exact uhn t e f hl hlf h2 h1 h3
theorem uj1 (t : af) (e f : aw) (r : dd) (hl : e.ss.length ≤ 20) (hlf : f.ss.length ≤ 20) (h : cb t e = 0) (hh : cb t f = 0) (hr : gt r = true) (G : Nat → Option GObj) (nx : Nat) (hF : G 0 = some cr) :
  PC Tryz.prog 42 [b7 t, val r, lst [e, f]] G nx fun r' G' nx' => ∃ y : (Nat × Nat) × (Nat × Nat), r' = .tup [.list [[(.elem (gg t e (nx + 1 + 1 + 1 + 1) (nx + 1 + 1 + 1 + 1 + 1)))], [(.elem (gg t f (nx + 1 + 1 + 1 + 1 + 1 + 1 + 1) (nx + 1 + 1 + 1 + 1 + 1 + 1 + 1 + 1)))]] .none, .v (.int .i64 0)] ∧ G' = (ah (ah (ah (ah G (nx + 1 + 1 + 1 + 1) (bl Tryz.prog 95 y.1.1 (a8 (av e.ss)))) (nx + 1 + 1 + 1 + 1 + 1) (bl Tryz.prog 95 y.1.2 (a8 (cn e.ss)))) (nx + 1 + 1 + 1 + 1 + 1 + 1 + 1) (bl Tryz.prog 95 y.2.1 (a8 (av f.ss)))) (nx + 1 + 1 + 1 + 1 + 1 + 1 + 1 + 1) (bl Tryz.prog 95 y.2.2 (a8 (cn f.ss)))) ∧ nx' = (nx + 1 + 1 + 1 + 1 + 1 + 1 + 1 + 1 + 1) :=
 ubn t r [e, f] _ G nx (fun y : (Nat × Nat) × (Nat × Nat) => (ah (ah (ah (ah G (nx + 1 + 1 + 1 + 1) (bl Tryz.prog 95 y.1.1 (a8 (av e.ss)))) (nx + 1 + 1 + 1 + 1 + 1) (bl Tryz.prog 95 y.1.2 (a8 (cn e.ss)))) (nx + 1 + 1 + 1 + 1 + 1 + 1 + 1) (bl Tryz.prog 95 y.2.1 (a8 (av f.ss)))) (nx + 1 + 1 + 1 + 1 + 1 + 1 + 1 + 1) (bl Tryz.prog 95 y.2.2 (a8 (cn f.ss))))) _ hr (by omega) (ufa _) (fun hlt y => ugk y) (ww t e f hl hlf h hh G nx hF)
theorem uj2 (t : af) (e f : aw) (r : dd) (hl : e.ss.length ≤ 20) (hlf : f.ss.length ≤ 20) (h : cb t e = 0) (hh : cb t f = 0) (hr : gt r = false) :
  c8 cr Tryz.prog 42 [b7 t, val r, lst [e, f]] (.tup [.list [] .nil, .v (.int .i64 2)]) :=
 ubo t r [e, f] (fun nx => .list [[(.elem (gg t e (nx + 1 + 1 + 1 + 1) (nx + 1 + 1 + 1 + 1 + 1)))], [(.elem (gg t f (nx + 1 + 1 + 1 + 1 + 1 + 1 + 1) (nx + 1 + 1 + 1 + 1 + 1 + 1 + 1 + 1)))]] .none) (fun G nx (y : (Nat × Nat) × (Nat × Nat)) => (ah (ah (ah (ah G (nx + 1 + 1 + 1 + 1) (bl Tryz.prog 95 y.1.1 (a8 (av e.ss)))) (nx + 1 + 1 + 1 + 1 + 1) (bl Tryz.prog 95 y.1.2 (a8 (cn e.ss)))) (nx + 1 + 1 + 1 + 1 + 1 + 1 + 1) (bl Tryz.prog 95 y.2.1 (a8 (av f.ss)))) (nx + 1 + 1 + 1 + 1 + 1 + 1 + 1 + 1) (bl Tryz.prog 95 y.2.2 (a8 (cn f.ss))))) (fun nx => (nx + 1 + 1 + 1 + 1 + 1 + 1 + 1 + 1 + 1)) hr (fun nx => by omega) (fun G nx hlt y n o ho => by
  have := hlt n o ho
  rw [dz (by omega), dz (by omega), dz (by omega), dz (by omega)]; exact ho) (fun G nx hF => ww t e f hl hlf h hh G nx hF)
theorem uev (t : af) (e f : aw) (r : dd) (er : Int) (he0 : er ≠ 0) (hcall : c8 cr Tryz.prog 42 [b7 t, val r, lst [e, f]] (.tup [.list [] .nil, .v (.int .i64 er)])) :
  c8 cr Tryz.prog 22 [b7 t, val e, val f, val r] (.tup [val (⟨0, 0, 0⟩ : dd), .v (.int .i64 er)]) := by
 refine fw Tryz.func22 rfl (fun m => .tup (am (da _ _) (am .v bn))) fun G nx hF => ?_
 simp only [Tryz.ntmps22, List.length_cons, List.length_nil, Nat.reduceAdd, Nat.reduceSub]
 refine bf fun hlt => ?_
 dsimp only at hlt
 have hnx := hlt 0 _ hF
 refine yS fun _ K1 => ?_
 refine yR ?_
 try dsimp only [St.put]
 refine yB rfl rfl rfl ?_
 try dsimp only [St.put]
 refine yB rfl rfl rfl ?_
 try dsimp only [St.put]
 refine yB rfl rfl rfl ?_
 try dsimp only [St.put]
 refine yB rfl rfl rfl ?_
 try dsimp only [St.put]
 refine ae rfl (bj rfl ?_)
 refine yA rfl rfl ?_
 refine yN ?_
 dsimp only [St.put]
 refine K1 _ ?_
 refine yS fun _ K2 => ?_
 refine yR ?_
 try dsimp only [St.put]
 refine ba rfl (bk rfl rfl rfl) ?_
 refine yE rfl rfl rfl ?_
 refine yE rfl rfl rfl ?_
 refine yE rfl rfl rfl ?_
 try dsimp only [St.put]
 refine ae rfl (cq rfl rfl rfl (by decide) (by decide) zR (by decide) ?_)
 try dsimp only [St.put]
 refine ae rfl (dq rfl rfl rfl (hcall) zG ?_)
 refine yM rfl rfl ?_
 refine yX rfl rfl rfl rfl ?_
 refine yX rfl rfl rfl rfl ?_
 refine yA rfl rfl ?_
 refine yA rfl rfl ?_
 refine yN ?_
 dsimp only [St.put]
 refine K2 _ ?_
 refine yS fun _ K3 => ?_
 refine yS fun _ K4 => ?_
 refine yR ?_
 refine yM rfl rfl ?_
 (refine aa rfl (br (c := true) (cz rfl rfl rfl) ((lf he0))) ?_)
 refine yN ?_
 dsimp only [St.put]
 refine K4 _ ?_
 refine ak rfl (fun _ => ?_) (fun h => by cases h)
 refine yS fun _ K5 => ?_
 refine yR ?_
 refine aa rfl (dg rfl rfl) ?_
 refine yM rfl rfl ?_
 try dsimp only [St.put]
 refine ae rfl (ax rfl rfl rfl zG rfl rfl (by rfl) ?_)
 refine yA rfl rfl ?_
 refine yN ?_
 dsimp only [St.put]
 refine K5 _ ?_
 refine aj ?_
 refine dj rfl (dr rfl zG (by rfl) (by first | exact List.cons_ne_nil _ _ | (simp; done) | (simp [putAt]; done)) rfl) (ci (by constructor)) zN zS ?_ ?_
 ·exact zW
 exact zW
theorem uo9 (t : af) (e f : aw) (r : dd) (hl : e.ss.length ≤ 20) (hlf : f.ss.length ≤ 20) (hb : ge t e f = 0) (hr : gt r = true) :
  c8 cr Tryz.prog 22 [b7 t, val e, val f, val r] (.tup [val (gi t e f r), .v (.int .i64 (gr t e f r))]) := by
 refine fw Tryz.func22 rfl (fun m => .tup (am (da _ _) (am .v bn))) fun G nx hF => ?_
 simp only [Tryz.ntmps22, List.length_cons, List.length_nil, Nat.reduceAdd, Nat.reduceSub]
 refine bf fun hlt => ?_
 dsimp only at hlt
 have hnx := hlt 0 _ hF
 obtain ⟨h, hh⟩ := zb hb
 have hS := mu h
 refine yS fun _ K1 => ?_
 refine yR ?_
 try dsimp only [St.put]
 refine yB rfl rfl rfl ?_
 try dsimp only [St.put]
 refine yB rfl rfl rfl ?_
 try dsimp only [St.put]
 refine yB rfl rfl rfl ?_
 try dsimp only [St.put]
 refine yB rfl rfl rfl ?_
 try dsimp only [St.put]
 refine ae rfl (bj rfl ?_)
 refine yA rfl rfl ?_
 refine yN ?_
 dsimp only [St.put]
 refine K1 _ ?_
 refine yS fun _ K2 => ?_
 refine yR ?_
 try dsimp only [St.put]
 refine ba rfl (bk rfl rfl rfl) ?_
 refine yE rfl rfl rfl ?_
 refine yE rfl rfl rfl ?_
 refine yE rfl rfl rfl ?_
 try dsimp only [St.put]
 refine ae rfl (cq rfl rfl rfl (by decide) (by decide) zR (by decide) ?_)
 try dsimp only [St.put]
 refine ae rfl (iy rfl rfl rfl (uj1 t e f r hl hlf h hh hr _ _ zG) (fun y => ?_))
 refine yM rfl rfl ?_
 refine yX rfl rfl rfl rfl ?_
 refine yX rfl rfl rfl rfl ?_
 refine yA rfl rfl ?_
 refine yA rfl rfl ?_
 refine yN ?_
 dsimp only [St.put]
 refine K2 _ ?_
 refine yS fun _ K3 => ?_
 refine yS fun _ K4 => ?_
 refine yR ?_
 refine yM rfl rfl ?_
 (refine aa rfl (br (c := false) (cz rfl rfl rfl) ((by rfl))) ?_)
 refine yN ?_
 dsimp only [St.put]
 refine K4 _ ?_
 refine ak rfl (fun h => by cases h) (fun _ => ?_)
 refine aq ?_
 refine K3 _ ?_
 refine yS fun _ K5 => ?_
 refine ml [(0, none), (1, none), (2, none), (3, none)] (fun _ => false) (fun i => [0, 1].contains i) 7 [true, true, true, true, false, false, false, false, false, false, false] (by kernel_rfl) (by kernel_rfl) ?_
 refine xM rfl rfl rfl rfl rfl ?_
 try dsimp only [St.put]
 refine ai rfl rfl rfl rfl (b8 (k := 0) rfl rfl rfl (by first | rfl | omega) rfl rfl) ?_
 try dsimp only [St.put]
 refine az rfl rfl rfl rfl (bq rfl rfl) ?_
 try dsimp only [St.put]
 refine az rfl rfl rfl rfl (bk rfl rfl (Enc.len _)) ?_
 refine b9 ?_
 refine bv [4, 8] (by kernel_rfl) (by simp) ?_
 refine bo ?_ ?_
 ·try dsimp only [St.put]
  refine bz rfl rfl rfl (fg rfl rfl rfl (s0 t e _ _ _ (cn e.ss) r hS.tx (s1 hS) hr _ _ (by dsimp only [St.put]; omega) (by dsimp only [St.put]; omega) zG) ?_)
  refine cy [(5, none), (6, none), (7, none)] (fun i => [5, 6, 7].contains i) 3 [true, true, true, true, true, true, true, true, false, false, false] (by kernel_rfl) ?_
  refine xM rfl rfl rfl rfl rfl ?_
  refine ai rfl rfl rfl rfl (d9 rfl rfl rfl) ?_
  refine ai rfl rfl rfl rfl (d9 rfl rfl rfl) ?_
  refine b9 ?_
  refine bv [8] (by kernel_rfl) (by simp) ?_
  refine bo ?_ ?_
  ·try dsimp only [St.put]
   refine bz rfl rfl rfl (bj rfl ?_)
   refine bv [9] (by kernel_rfl) (by simp) ?_
   refine bo ?_ ?_
   ·try dsimp only [St.put]
    refine bz rfl rfl rfl (ax rfl rfl rfl zG rfl rfl (by rfl) ?_)
    refine cy [(10, none)] (fun i => [10].contains i) 0 [true, true, true, true, true, true, true, true, true, true, true] (by kernel_rfl) ?_
    refine ai rfl rfl rfl rfl (eh rfl (by constructor)) ?_
    refine b9 ?_
    dsimp only [St.put]
    refine s5 (rn (i := 12) rfl zG (by first | exact List.cons_ne_nil _ _ | (simp; done) | (simp [putAt]; done))) ?_
    dsimp only
    refine g6 (by kernel_rfl) ?_
    refine K5 _ ?_
    refine yS fun _ K6 => ?_
    refine yS fun _ K7 => ?_
    refine yR ?_
    refine yM rfl rfl ?_
    refine aa rfl (c9 rfl rfl) ?_
    refine yN ?_
    dsimp only [St.put]
    refine K7 _ ?_
    refine ak rfl (fun hc => ?_) (fun hc => ?_)
    ·have hf : iu t e.ss r = none := by simpa [kj] using hc
     have hE : gr t e f r = 6 := by simp [gr, ki, hb, hr, hf]
     have hV : gi t e f r = ⟨0, 0, 0⟩ := by simp [gi, hE]
     refine yS fun _ K8 => ?_
     refine yR ?_
     refine aa rfl (dg rfl rfl) ?_
     try dsimp only [St.put]
     refine ae rfl (ax rfl rfl rfl zG rfl rfl (by rfl) ?_)
     refine yA rfl rfl ?_
     refine yN ?_
     dsimp only [St.put]
     refine K8 _ ?_
     refine aj ?_
     refine dj rfl (dr rfl zG (by rfl) (by first | exact List.cons_ne_nil _ _ | (simp; done) | (simp [putAt]; done)) rfl) (ci (by constructor)) zN zS ?_ ?_
     ·rw [hV]
      exact zW
     exact Wk.of_eq (vi hE.symm)
    have hf : (iu t e.ss r).isSome = true := by simpa [kj] using hc
    obtain ⟨p, hp⟩ := Option.isSome_iff_exists.1 hf
    obtain ⟨hp1, hp2, hp3⟩ := uct hS hr hp
    have hpd : (ldO t (cn e.ss) r).getD ⟨0, 0, 0⟩ = p := by rw [kj, hp]; rfl
    have hE0 : gr t e f r = ec t f p := by simp [gr, ki, hb, hr, hp]
    have hr' := hr
    simp only [gt, Bool.and_eq_true, inB_true] at hr'
    rw [hpd]
    refine aq ?_
    refine K6 _ ?_
    refine yS fun _ K9 => ?_
    refine ml [(0, none), (1, none), (2, none), (3, none)] (fun _ => false) (fun i => [0, 1].contains i) 7 [true, true, true, true, false, false, false, false, false, false, false] (by kernel_rfl) (by kernel_rfl) ?_
    refine xM rfl rfl rfl rfl rfl ?_
    try dsimp only [St.put]
    refine ai rfl rfl rfl rfl (b8 (k := 1) rfl rfl rfl (by first | rfl | omega) rfl rfl) ?_
    try dsimp only [St.put]
    refine az rfl rfl rfl rfl (bq rfl rfl) ?_
    try dsimp only [St.put]
    refine az rfl rfl rfl rfl (bk rfl rfl (Enc.len _)) ?_
    refine b9 ?_
    refine bv [4, 8] (by kernel_rfl) (by simp) ?_
    refine bo ?_ ?_
    ·try dsimp only [St.put]
     refine bz rfl rfl rfl (fg rfl rfl rfl (pv t f _ _ _ (av f.ss) p (by omega) _ _ (by dsimp only [St.put]; omega) (by dsimp only [St.put]; omega) zG) ?_)
     refine cy [(5, none), (6, none), (7, none)] (fun i => [5, 6, 7].contains i) 3 [true, true, true, true, true, true, true, true, false, false, false] (by kernel_rfl) ?_
     refine xM rfl rfl rfl rfl rfl ?_
     refine ai rfl rfl rfl rfl (d9 rfl rfl rfl) ?_
     refine ai rfl rfl rfl rfl (d9 rfl rfl rfl) ?_
     refine b9 ?_
     refine bv [8] (by kernel_rfl) (by simp) ?_
     refine bo ?_ ?_
     ·try dsimp only [St.put]
      refine bz rfl rfl rfl (bj rfl ?_)
      refine bv [9] (by kernel_rfl) (by simp) ?_
      refine bo ?_ ?_
      ·try dsimp only [St.put]
       refine bz rfl rfl rfl (ax rfl rfl rfl zG rfl rfl (by rfl) ?_)
       refine cy [(10, none)] (fun i => [10].contains i) 0 [true, true, true, true, true, true, true, true, true, true, true] (by kernel_rfl) ?_
       refine ai rfl rfl rfl rfl (eh rfl (by constructor)) ?_
       refine b9 ?_
       dsimp only [St.put]
       refine g6 (by kernel_rfl) ?_
       refine K9 _ ?_
       refine yS fun _ K10 => ?_
       refine yS fun _ K11 => ?_
       refine yR ?_
       refine yM rfl rfl ?_
       refine aa rfl (c9 rfl rfl) ?_
       refine yN ?_
       dsimp only [St.put]
       refine K11 _ ?_
       refine ak rfl (fun hc => ?_) (fun hc => ?_)
       ·have hg : av f.ss (p.ch, p.ln) = none := by simpa using hc
        have hE1 : ec t f p = 6 := by simp [ec, hh, hp1, hg]
        have hE : gr t e f r = 6 := hE0.trans hE1
        have hV : gi t e f r = ⟨0, 0, 0⟩ := by simp [gi, hE]
        refine yS fun _ K12 => ?_
        refine yR ?_
        refine aa rfl (dg rfl rfl) ?_
        try dsimp only [St.put]
        refine ae rfl (ax rfl rfl rfl zG rfl rfl (by rfl) ?_)
        refine yA rfl rfl ?_
        refine yN ?_
        dsimp only [St.put]
        refine K12 _ ?_
        refine aj ?_
        refine dj rfl (dr rfl zG (by rfl) (by first | exact List.cons_ne_nil _ _ | (simp; done) | (simp [putAt]; done)) rfl) (ci (by constructor)) zN zS ?_ ?_
        ·rw [hV]
         exact zW
        exact Wk.of_eq (vi hE.symm)
       have hg : (av f.ss (p.ch, p.ln)).isSome = true := by simpa using hc
       have hE1 : ec t f p = 0 := by simp [ec, hh, hp1, hg]
       have hE : gr t e f r = 0 := hE0.trans hE1
       have hV : gi t e f r = rfV (av f.ss) p := by
        obtain ⟨v, hv⟩ := Option.isSome_iff_exists.1 hg
        simp [gi, hE, hp, g7, hE1, rfV, hv]
       refine aq ?_
       refine K10 _ ?_
       refine yS fun _ K13 => ?_
       refine yR ?_
       try dsimp only [St.put]
       refine ba rfl (i6 rfl rfl zG trivial (by rfl)) ?_
       try dsimp only [St.put]
       refine ae rfl (ax rfl rfl rfl zG rfl rfl (by rfl) ?_)
       refine yA rfl rfl ?_
       refine yN ?_
       dsimp only [St.put]
       refine K13 _ ?_
       refine aj ?_
       refine dj rfl (dr rfl zG (by rfl) (by first | exact List.cons_ne_nil _ _ | (simp; done) | (simp [putAt]; done)) rfl) (ci (by constructor)) zN zS ?_ ?_
       ·rw [hV]
        exact zW
       exact Wk.of_eq (vi hE.symm)
      exact bu
     exact bu
    refine bo ?_ ?_
    ·try dsimp only [St.put]
     refine bz rfl rfl rfl (bj rfl ?_)
     refine bv [4] (by kernel_rfl) (by simp) ?_
     refine bo ?_ ?_
     ·try dsimp only [St.put]
      refine bz rfl rfl rfl (fg rfl rfl rfl (pv t f _ _ _ (av f.ss) p (by omega) _ _ (by dsimp only [St.put]; omega) (by dsimp only [St.put]; omega) zG) ?_)
      refine cy [(5, none), (6, none), (7, none)] (fun i => [5, 6, 7].contains i) 2 [true, true, true, true, true, true, true, true, true, false, false] (by kernel_rfl) ?_
      refine xM rfl rfl rfl rfl rfl ?_
      refine ai rfl rfl rfl rfl (d9 rfl rfl rfl) ?_
      refine ai rfl rfl rfl rfl (d9 rfl rfl rfl) ?_
      refine b9 ?_
      refine bv [9] (by kernel_rfl) (by simp) ?_
      refine bo ?_ ?_
      ·try dsimp only [St.put]
       refine bz rfl rfl rfl (ax rfl rfl rfl zG rfl rfl (by rfl) ?_)
       refine cy [(10, none)] (fun i => [10].contains i) 0 [true, true, true, true, true, true, true, true, true, true, true] (by kernel_rfl) ?_
       refine ai rfl rfl rfl rfl (eh rfl (by constructor)) ?_
       refine b9 ?_
       dsimp only [St.put]
       refine g6 (by kernel_rfl) ?_
       refine K9 _ ?_
       refine yS fun _ K14 => ?_
       refine yS fun _ K15 => ?_
       refine yR ?_
       refine yM rfl rfl ?_
       refine aa rfl (c9 rfl rfl) ?_
       refine yN ?_
       dsimp only [St.put]
       refine K15 _ ?_
       refine ak rfl (fun hc => ?_) (fun hc => ?_)
       ·have hg : av f.ss (p.ch, p.ln) = none := by simpa using hc
        have hE1 : ec t f p = 6 := by simp [ec, hh, hp1, hg]
        have hE : gr t e f r = 6 := hE0.trans hE1
        have hV : gi t e f r = ⟨0, 0, 0⟩ := by simp [gi, hE]
        refine yS fun _ K16 => ?_
        refine yR ?_
        refine aa rfl (dg rfl rfl) ?_
        try dsimp only [St.put]
        refine ae rfl (ax rfl rfl rfl zG rfl rfl (by rfl) ?_)
        refine yA rfl rfl ?_
        refine yN ?_
        dsimp only [St.put]
        refine K16 _ ?_
        refine aj ?_
        refine dj rfl (dr rfl zG (by rfl) (by first | exact List.cons_ne_nil _ _ | (simp; done) | (simp [putAt]; done)) rfl) (ci (by constructor)) zN zS ?_ ?_
        ·rw [hV]
         exact zW
        exact Wk.of_eq (vi hE.symm)
       have hg : (av f.ss (p.ch, p.ln)).isSome = true := by simpa using hc
       have hE1 : ec t f p = 0 := by simp [ec, hh, hp1, hg]
       have hE : gr t e f r = 0 := hE0.trans hE1
       have hV : gi t e f r = rfV (av f.ss) p := by
        obtain ⟨v, hv⟩ := Option.isSome_iff_exists.1 hg
        simp [gi, hE, hp, g7, hE1, rfV, hv]
       refine aq ?_
       refine K14 _ ?_
       refine yS fun _ K17 => ?_
       refine yR ?_
       try dsimp only [St.put]
       refine ba rfl (i6 rfl rfl zG trivial (by rfl)) ?_
       try dsimp only [St.put]
       refine ae rfl (ax rfl rfl rfl zG rfl rfl (by rfl) ?_)
       refine yA rfl rfl ?_
       refine yN ?_
       dsimp only [St.put]
       refine K17 _ ?_
       refine aj ?_
       refine dj rfl (dr rfl zG (by rfl) (by first | exact List.cons_ne_nil _ _ | (simp; done) | (simp [putAt]; done)) rfl) (ci (by constructor)) zN zS ?_ ?_
       ·rw [hV]
        exact zW
       exact Wk.of_eq (vi hE.symm)
      exact bu
     exact bu
    exact bu
   exact bu
  exact bu
 refine bo ?_ ?_
 ·try dsimp only [St.put]
  refine bz rfl rfl rfl (bj rfl ?_)
  refine bv [4] (by kernel_rfl) (by simp) ?_
  refine bo ?_ ?_
  ·try dsimp only [St.put]
   refine bz rfl rfl rfl (fg rfl rfl rfl (s0 t e _ _ _ (cn e.ss) r hS.tx (s1 hS) hr _ _ (by dsimp only [St.put]; omega) (by dsimp only [St.put]; omega) zG) ?_)
   refine cy [(5, none), (6, none), (7, none)] (fun i => [5, 6, 7].contains i) 2 [true, true, true, true, true, true, true, true, true, false, false] (by kernel_rfl) ?_
   refine xM rfl rfl rfl rfl rfl ?_
   refine ai rfl rfl rfl rfl (d9 rfl rfl rfl) ?_
   refine ai rfl rfl rfl rfl (d9 rfl rfl rfl) ?_
   refine b9 ?_
   refine bv [9] (by kernel_rfl) (by simp) ?_
   refine bo ?_ ?_
   ·try dsimp only [St.put]
    refine bz rfl rfl rfl (ax rfl rfl rfl zG rfl rfl (by rfl) ?_)
    refine cy [(10, none)] (fun i => [10].contains i) 0 [true, true, true, true, true, true, true, true, true, true, true] (by kernel_rfl) ?_
    refine ai rfl rfl rfl rfl (eh rfl (by constructor)) ?_
    refine b9 ?_
    dsimp only [St.put]
    refine s5 (rn (i := 12) rfl zG (by first | exact List.cons_ne_nil _ _ | (simp; done) | (simp [putAt]; done))) ?_
    dsimp only
    refine g6 (by kernel_rfl) ?_
    refine K5 _ ?_
    refine yS fun _ K18 => ?_
    refine yS fun _ K19 => ?_
    refine yR ?_
    refine yM rfl rfl ?_
    refine aa rfl (c9 rfl rfl) ?_
    refine yN ?_
    dsimp only [St.put]
    refine K19 _ ?_
    refine ak rfl (fun hc => ?_) (fun hc => ?_)
    ·have hf : iu t e.ss r = none := by simpa [kj] using hc
     have hE : gr t e f r = 6 := by simp [gr, ki, hb, hr, hf]
     have hV : gi t e f r = ⟨0, 0, 0⟩ := by simp [gi, hE]
     refine yS fun _ K20 => ?_
     refine yR ?_
     refine aa rfl (dg rfl rfl) ?_
     try dsimp only [St.put]
     refine ae rfl (ax rfl rfl rfl zG rfl rfl (by rfl) ?_)
     refine yA rfl rfl ?_
     refine yN ?_
     dsimp only [St.put]
     refine K20 _ ?_
     refine aj ?_
     refine dj rfl (dr rfl zG (by rfl) (by first | exact List.cons_ne_nil _ _ | (simp; done) | (simp [putAt]; done)) rfl) (ci (by constructor)) zN zS ?_ ?_
     ·rw [hV]
      exact zW
     exact Wk.of_eq (vi hE.symm)
    have hf : (iu t e.ss r).isSome = true := by simpa [kj] using hc
    obtain ⟨p, hp⟩ := Option.isSome_iff_exists.1 hf
    obtain ⟨hp1, hp2, hp3⟩ := uct hS hr hp
    have hpd : (ldO t (cn e.ss) r).getD ⟨0, 0, 0⟩ = p := by rw [kj, hp]; rfl
    have hE0 : gr t e f r = ec t f p := by simp [gr, ki, hb, hr, hp]
    have hr' := hr
    simp only [gt, Bool.and_eq_true, inB_true] at hr'
    rw [hpd]
    refine aq ?_
    refine K18 _ ?_
    refine yS fun _ K21 => ?_
    refine ml [(0, none), (1, none), (2, none), (3, none)] (fun _ => false) (fun i => [0, 1].contains i) 7 [true, true, true, true, false, false, false, false, false, false, false] (by kernel_rfl) (by kernel_rfl) ?_
    refine xM rfl rfl rfl rfl rfl ?_
    try dsimp only [St.put]
    refine ai rfl rfl rfl rfl (b8 (k := 1) rfl rfl rfl (by first | rfl | omega) rfl rfl) ?_
    try dsimp only [St.put]
    refine az rfl rfl rfl rfl (bq rfl rfl) ?_
    try dsimp only [St.put]
    refine az rfl rfl rfl rfl (bk rfl rfl (Enc.len _)) ?_
    refine b9 ?_
    refine bv [4, 8] (by kernel_rfl) (by simp) ?_
    refine bo ?_ ?_
    ·try dsimp only [St.put]
     refine bz rfl rfl rfl (fg rfl rfl rfl (pv t f _ _ _ (av f.ss) p (by omega) _ _ (by dsimp only [St.put]; omega) (by dsimp only [St.put]; omega) zG) ?_)
     refine cy [(5, none), (6, none), (7, none)] (fun i => [5, 6, 7].contains i) 3 [true, true, true, true, true, true, true, true, false, false, false] (by kernel_rfl) ?_
     refine xM rfl rfl rfl rfl rfl ?_
     refine ai rfl rfl rfl rfl (d9 rfl rfl rfl) ?_
     refine ai rfl rfl rfl rfl (d9 rfl rfl rfl) ?_
     refine b9 ?_
     refine bv [8] (by kernel_rfl) (by simp) ?_
     refine bo ?_ ?_
     ·try dsimp only [St.put]
      refine bz rfl rfl rfl (bj rfl ?_)
      refine bv [9] (by kernel_rfl) (by simp) ?_
      refine bo ?_ ?_
      ·try dsimp only [St.put]
       refine bz rfl rfl rfl (ax rfl rfl rfl zG rfl rfl (by rfl) ?_)
       refine cy [(10, none)] (fun i => [10].contains i) 0 [true, true, true, true, true, true, true, true, true, true, true] (by kernel_rfl) ?_
       refine ai rfl rfl rfl rfl (eh rfl (by constructor)) ?_
       refine b9 ?_
       dsimp only [St.put]
       refine g6 (by kernel_rfl) ?_
       refine K21 _ ?_
       refine yS fun _ K22 => ?_
       refine yS fun _ K23 => ?_
       refine yR ?_
       refine yM rfl rfl ?_
       refine aa rfl (c9 rfl rfl) ?_
       refine yN ?_
       dsimp only [St.put]
       refine K23 _ ?_
       refine ak rfl (fun hc => ?_) (fun hc => ?_)
       ·have hg : av f.ss (p.ch, p.ln) = none := by simpa using hc
        have hE1 : ec t f p = 6 := by simp [ec, hh, hp1, hg]
        have hE : gr t e f r = 6 := hE0.trans hE1
        have hV : gi t e f r = ⟨0, 0, 0⟩ := by simp [gi, hE]
        refine yS fun _ K24 => ?_
        refine yR ?_
        refine aa rfl (dg rfl rfl) ?_
        try dsimp only [St.put]
        refine ae rfl (ax rfl rfl rfl zG rfl rfl (by rfl) ?_)
        refine yA rfl rfl ?_
        refine yN ?_
        dsimp only [St.put]
        refine K24 _ ?_
        refine aj ?_
        refine dj rfl (dr rfl zG (by rfl) (by first | exact List.cons_ne_nil _ _ | (simp; done) | (simp [putAt]; done)) rfl) (ci (by constructor)) zN zS ?_ ?_
        ·rw [hV]
         exact zW
        exact Wk.of_eq (vi hE.symm)
       have hg : (av f.ss (p.ch, p.ln)).isSome = true := by simpa using hc
       have hE1 : ec t f p = 0 := by simp [ec, hh, hp1, hg]
       have hE : gr t e f r = 0 := hE0.trans hE1
       have hV : gi t e f r = rfV (av f.ss) p := by
        obtain ⟨v, hv⟩ := Option.isSome_iff_exists.1 hg
        simp [gi, hE, hp, g7, hE1, rfV, hv]
       refine aq ?_
       refine K22 _ ?_
       refine yS fun _ K25 => ?_
       refine yR ?_
       try dsimp only [St.put]
       refine ba rfl (i6 rfl rfl zG trivial (by rfl)) ?_
       try dsimp only [St.put]
       refine ae rfl (ax rfl rfl rfl zG rfl rfl (by rfl) ?_)
       refine yA rfl rfl ?_
       refine yN ?_
       dsimp only [St.put]
       refine K25 _ ?_
       refine aj ?_
       refine dj rfl (dr rfl zG (by rfl) (by first | exact List.cons_ne_nil _ _ | (simp; done) | (simp [putAt]; done)) rfl) (ci (by constructor)) zN zS ?_ ?_
       ·rw [hV]
        exact zW
       exact Wk.of_eq (vi hE.symm)
      exact bu
     exact bu
    refine bo ?_ ?_
    ·try dsimp only [St.put]
     refine bz rfl rfl rfl (bj rfl ?_)
     refine bv [4] (by kernel_rfl) (by simp) ?_
     refine bo ?_ ?_
     ·try dsimp only [St.put]
      refine bz rfl rfl rfl (fg rfl rfl rfl (pv t f _ _ _ (av f.ss) p (by omega) _ _ (by dsimp only [St.put]; omega) (by dsimp only [St.put]; omega) zG) ?_)
      refine cy [(5, none), (6, none), (7, none)] (fun i => [5, 6, 7].contains i) 2 [true, true, true, true, true, true, true, true, true, false, false] (by kernel_rfl) ?_
      refine xM rfl rfl rfl rfl rfl ?_
      refine ai rfl rfl rfl rfl (d9 rfl rfl rfl) ?_
      refine ai rfl rfl rfl rfl (d9 rfl rfl rfl) ?_
      refine b9 ?_
      refine bv [9] (by kernel_rfl) (by simp) ?_
      refine bo ?_ ?_
      ·try dsimp only [St.put]
       refine bz rfl rfl rfl (ax rfl rfl rfl zG rfl rfl (by rfl) ?_)
       refine cy [(10, none)] (fun i => [10].contains i) 0 [true, true, true, true, true, true, true, true, true, true, true] (by kernel_rfl) ?_
       refine ai rfl rfl rfl rfl (eh rfl (by constructor)) ?_
       refine b9 ?_
       dsimp only [St.put]
       refine g6 (by kernel_rfl) ?_
       refine K21 _ ?_
       refine yS fun _ K26 => ?_
       refine yS fun _ K27 => ?_
       refine yR ?_
       refine yM rfl rfl ?_
       refine aa rfl (c9 rfl rfl) ?_
       refine yN ?_
       dsimp only [St.put]
       refine K27 _ ?_
       refine ak rfl (fun hc => ?_) (fun hc => ?_)
       ·have hg : av f.ss (p.ch, p.ln) = none := by simpa using hc
        have hE1 : ec t f p = 6 := by simp [ec, hh, hp1, hg]
        have hE : gr t e f r = 6 := hE0.trans hE1
        have hV : gi t e f r = ⟨0, 0, 0⟩ := by simp [gi, hE]
        refine yS fun _ K28 => ?_
        refine yR ?_
        refine aa rfl (dg rfl rfl) ?_
        try dsimp only [St.put]
        refine ae rfl (ax rfl rfl rfl zG rfl rfl (by rfl) ?_)
        refine yA rfl rfl ?_
        refine yN ?_
        dsimp only [St.put]
        refine K28 _ ?_
        refine aj ?_
        refine dj rfl (dr rfl zG (by rfl) (by first | exact List.cons_ne_nil _ _ | (simp; done) | (simp [putAt]; done)) rfl) (ci (by constructor)) zN zS ?_ ?_
        ·rw [hV]
         exact zW
        exact Wk.of_eq (vi hE.symm)
       have hg : (av f.ss (p.ch, p.ln)).isSome = true := by simpa using hc
       have hE1 : ec t f p = 0 := by simp [ec, hh, hp1, hg]
       have hE : gr t e f r = 0 := hE0.trans hE1
       have hV : gi t e f r = rfV (av f.ss) p := by
        obtain ⟨v, hv⟩ := Option.isSome_iff_exists.1 hg
        simp [gi, hE, hp, g7, hE1, rfV, hv]
       refine aq ?_
       refine K26 _ ?_
       refine yS fun _ K29 => ?_
       refine yR ?_
       try dsimp only [St.put]
       refine ba rfl (i6 rfl rfl zG trivial (by rfl)) ?_
       try dsimp only [St.put]
       refine ae rfl (ax rfl rfl rfl zG rfl rfl (by rfl) ?_)
       refine yA rfl rfl ?_
       refine yN ?_
       dsimp only [St.put]
       refine K29 _ ?_
       refine aj ?_
       refine dj rfl (dr rfl zG (by rfl) (by first | exact List.cons_ne_nil _ _ | (simp; done) | (simp [putAt]; done)) rfl) (ci (by constructor)) zN zS ?_ ?_
       ·rw [hV]
        exact zW
       exact Wk.of_eq (vi hE.symm)
      exact bu
     exact bu
    exact bu
   exact bu
  exact bu
 exact bu
theorem uo8 (t : af) (e f : aw) (r : dd) (hl : e.ss.length ≤ 20) (hlf : f.ss.length ≤ 20) :
  c8 cr Tryz.prog 22 [b7 t, val e, val f, val r] (.tup [val (gi t e f r), .v (.int .i64 (gr t e f r))]) := by
 by_cases h : ge t e f = 0
 ·cases hr : gt r with
  | true => exact uo9 t e f r hl hlf h hr
  | false =>
   have hE : gr t e f r = 2 := by simp [gr, ki, h, hr]
   have hV : gi t e f r = ⟨0, 0, 0⟩ := by simp [gi, hE]
   rw [hV, hE]
   obtain ⟨h1, h2⟩ := zb h
   exact uev t e f r 2 (by decide) (uj2 t e f r hl hlf h1 h2 hr)
 have hE : gr t e f r = ge t e f := by simp [gr, h]
 have hV : gi t e f r = ⟨0, 0, 0⟩ := by simp [gi, hE, h]
 rw [hV, hE]
 exact uev t e f r _ h (xk t r [e, f] _ h (uah t e f hl hlf h))
end Go.Proofs.YtjjklfgpffgnfabGreatDoor
