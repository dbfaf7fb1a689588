/-
 Contracts of the program's functions of charts: the places of the nearest references.
-/
import Derived.Test.YtjjklfgpffgnfaaGreatDoorFdNear
import Derived.Test.YtjjklfgpffgnfaaGreatDoorEeTurn
namespace Go.AB
open Go Go.RowKit
open Go.AB.Enc (cells)
open Go.PB (bv ai PlaceD cy c6 cz)
def j4 (r : dm) : List Int := [r.ch, r.ln, r.wd]
/-- the numbers of a place's reference -/
def g6 (f : L2 → Option L2) (q : PlaceD) : List Int := j4 (rfV f q)
theorem v6 {f : L2 → Option L2} {q : PlaceD} {v : L2} (h : f (q.ch, q.ln) = some v) : g6 f q = [v.1, v.2, q.wd + 1] := by simp [g6, rfV, h, j4]
theorem ua4 {t : ai} {ss : List StretchD} (hS : Sound t ss) : pj (fw t (ax ss)) (g6 (ax ss)) 3 := ⟨fun _ _ => rfl, fun a ha b hb h => by
 obtain ⟨v, hv⟩ := Option.isSome_iff_exists.1 (mem_words.1 ha).2
 obtain ⟨u, hu⟩ := Option.isSome_iff_exists.1 (mem_words.1 hb).2
 rw [v6 hv, v6 hu] at h
 simp only [List.cons.injEq, and_true] at h
 have hvu : v = u := Prod.ext h.1 h.2.1
 subst hvu
 have h1 := (kd hS.no).2 hv
 have h2 := (kd hS.no).2 hu
 rw [h1] at h2
 have h3 := Option.some.inj h2
 simp only [Prod.mk.injEq] at h3
 obtain ⟨a1, a2, a3⟩ := a
 obtain ⟨b1, b2, b3⟩ := b
 simp only [PlaceD.mk.injEq]
 simp only at h3 h
 omega⟩
noncomputable def nm (t : ai) (ss : List StretchD) (r : dm) : List PlaceD := match iv t ss r with
 | some p => [p]
 | none => su (fw t (ax ss)) (g6 (ax ss)) (j4 r)
noncomputable def jq (t : ai) (e : av) (r : dm) : Int := bif decide (bz t e = 0) then (bif gx r then (bif decide (nm t e.ss r = []) then 6 else 0) else 2) else bz t e
noncomputable def kp (t : ai) (e : av) (r : dm) : List PlaceD := bif decide (jq t e r = 0) then nm t e.ss r else []
theorem ukp {t : ai} {ss : List StretchD} (hS : Sound t ss) {r : dm} (hr : gx r = true) (hno : iv t ss r = none) : ∀ y ∈ fw t (ax ss), g6 (ax ss) y ≠ j4 r := fun y hy e => by
 obtain ⟨h1, h2⟩ := mem_words.1 hy
 obtain ⟨v, hv⟩ := Option.isSome_iff_exists.1 h2
 rw [v6 hv] at e
 simp only [j4, List.cons.injEq, and_true] at e
 obtain ⟨e1, e2, e3⟩ := e
 obtain ⟨l, hw, hw1, hw2⟩ := placeB_true.1 h1
 have hb := (kd hS.no).2 hv
 rw [show v = (r.ch, r.ln) from Prod.ext e1 e2] at hb
 unfold iv at hno
 rw [hb] at hno
 simp only [hw, Option.getD_some] at hno
 rw [decide_eq_false (show ¬ (l.length : Int) < r.wd by omega)] at hno
 cases hno
theorem ufc {S : List PlaceD} {key : PlaceD → List Int} {n : Nat} (hk : pj S key n) {ys : List PlaceD} (hp : ys.Perm S) (hs : ys.Pairwise fun a b => ¬ fp (key b) (key a) < 0) (hn : S.Nodup) : ys.Pairwise fun a b => ltW (key a) (key b) := by
 have h1 : ys.Pairwise fun a b => ¬ fp (key b) (key a) < 0 ∧ a ≠ b := List.pairwise_and_iff.2 ⟨hs, hp.nodup_iff.2 hn⟩
 refine List.Pairwise.imp_of_mem (fun {a b} ha hb ⟨h2, h3⟩ => ?_) h1
 have ha' := hp.mem_iff.1 ha
 have hb' := hp.mem_iff.1 hb
 rw [tv ((hk.len b hb').trans (hk.len a ha').symm)] at h2
 exact Classical.byContradiction fun h4 => h3 (hk.inj a ha' b hb' (p3 ((hk.len a ha').trans (hk.len b hb').symm) h4 h2))
theorem udq (t : ai) (f : L2 → Option L2) : (fw t f).Nodup :=
 (x7 t f).imp fun {a b} h e => by subst e; exact nd _ h
theorem ucg {t : ai} {ss : List StretchD} (hS : Sound t ss) {r : dm} (hr : gx r = true) (hno : iv t ss r = none) {ys : List PlaceD} (hp : ys.Perm (fw t (ax ss))) (hs : ys.Pairwise fun a b => ¬ fp (g6 (ax ss) b) (g6 (ax ss) a) < 0) :
  k8 ys (ii ys fun q => fp (g6 (ax ss) q) (j4 r)) = nm t ss r := by
 have h1 := ucb (l := ys) (key := g6 (ax ss)) (x := j4 r) (n := 3) rfl (fun _ _ => rfl) (ufc (ua4 hS) hp hs (udq _ _)) fun y hy => ukp hS hr hno y (hp.mem_iff.1 hy)
 unfold nm
 rw [hno]
 exact (z6 (ua4 hS) (h1.congr fun y => hp.mem_iff)).symm
def PBdP (q : PlaceD) : Prop := (0 ≤ q.ch ∧ q.ch ≤ 100000) ∧ (0 ≤ q.ln ∧ q.ln ≤ 100000) ∧ 0 ≤ q.wd ∧ q.wd ≤ 100000
theorem PBdP.plain {a : PlaceD} (h : PBdP a) : Plain (cells a) := fun c hc => by
 obtain ⟨h1, h2, h3⟩ := h
 have hc' : c ∈ [C.v (.int .i64 a.ch), C.v (.int .i64 a.ln), C.v (.int .i64 a.wd)] := hc
 simp only [List.mem_cons, List.not_mem_nil, or_false] at hc'
 rcases hc' with rfl | rfl | rfl
 ·exact ⟨_, rfl, j0 (by omega)⟩
 ·exact ⟨_, rfl, j0 (by omega)⟩
 exact ⟨_, rfl, j0 (by omega)⟩
theorem udp {t : ai} (ht : ct t = true) {f : L2 → Option L2} {q : PlaceD} (h : q ∈ fw t f) : PBdP q := by
 obtain ⟨l, hw, hw1, hw2⟩ := placeB_true.1 (mem_words.1 h).1
 have := od ht hw
 exact ⟨by omega, by omega, by omega, by omega⟩
theorem uh6 {p : PlaceD → Prop} (f : L2 → Option L2) : Ord3 p fun a b => fp (g6 f a) (g6 f b) := by
 have key : ∀ a b, fp (g6 f a) (g6 f b) < 0 ↔ ltW (g6 f a) (g6 f b) := fun a b => tv rfl
 refine ⟨fun x _ => ?_, fun x y z _ _ _ h k => ?_, fun x y z _ _ _ h k => ?_⟩
 ·rw [key]; exact nd _
 ·rw [key] at h k ⊢; exact n2 h k
 rw [key] at h k ⊢
 intro hxz
 by_cases h1 : ltW (g6 f y) (g6 f x)
 ·exact k (n2 h1 hxz)
 rw [p3 (a := g6 f x) (b := g6 f y) rfl h h1] at hxz; exact k hxz
end Go.AB
namespace Go.Proofs.YtjjklfgpffgnfaaGreatDoor
set_option maxRecDepth 10000
open Go.RowKit Go.AB
open Go.AB.Enc (cells)
open Go.PB (bv ai PlaceD cy c6 cz)
instance : Ty Tryz.prog (srt_Place_ren.t 24) true (Enc.n PlaceD) := inferInstanceAs (Ty Tryz.prog 32 true 3)
theorem zj (a b : dm) : c8 Tryz.prog 59 [val a, val b] (.v (.int .i64 (fp (j4 a) (j4 b)))) := by
 refine dr Tryz.func59 rfl (fun m => .v) fun G nx => ?_
 simp only [Tryz.ntmps59, List.length_cons, List.length_nil, Nat.reduceAdd, Nat.reduceSub]
 refine bi fun hlt => ?_
 dsimp only at hlt
 refine yS fun _ K1 => ?_
 refine yR ?_
 try dsimp only [St.put]
 refine yB rfl rfl rfl ?_
 try dsimp only [St.put]
 refine yB rfl rfl rfl ?_
 refine yA rfl rfl ?_
 refine yN ?_
 dsimp only [St.put]
 refine K1 _ ?_
 refine yS fun _ K2 => ?_
 refine gj [(0, none), (1, none), (2, none), (3, none), (4, none), (5, none), (6, none), (7, none), (8, none), (9, none), (10, none), (11, none), (12, none), (13, none), (14, some 15), (16, none), (17, none)] (fun i => [17].contains i) (fun i => [14, 15, 16, 17].contains i) (fun i => [0, 2, 4, 6, 7, 9, 11, 13].contains i) [] (by kernel_rfl) (by kernel_rfl) ?_
 refine ah rfl rfl rfl rfl (b9 rfl rfl rfl) ?_
 try dsimp only [St.put]
 refine aj rfl rfl rfl rfl (a7 rfl rfl) ?_
 refine ah rfl rfl rfl rfl (b9 rfl rfl rfl) ?_
 try dsimp only [St.put]
 refine aj rfl rfl rfl rfl (a7 rfl rfl) ?_
 refine ah rfl rfl rfl rfl (b9 rfl rfl rfl) ?_
 try dsimp only [St.put]
 refine aj rfl rfl rfl rfl (a7 rfl rfl) ?_
 refine ah rfl rfl rfl rfl (ir rfl rfl) ?_
 refine ah rfl rfl rfl rfl (b9 rfl rfl rfl) ?_
 try dsimp only [St.put]
 refine aj rfl rfl rfl rfl (a7 rfl rfl) ?_
 refine ah rfl rfl rfl rfl (b9 rfl rfl rfl) ?_
 try dsimp only [St.put]
 refine aj rfl rfl rfl rfl (a7 rfl rfl) ?_
 refine ah rfl rfl rfl rfl (b9 rfl rfl rfl) ?_
 try dsimp only [St.put]
 refine aj rfl rfl rfl rfl (a7 rfl rfl) ?_
 refine ah rfl rfl rfl rfl (ir rfl rfl) ?_
 refine il ?_
 refine ub rfl rfl rfl rfl rfl rfl rfl rfl (by decide) (by simp) ?_
 try dsimp only [St.put]
 refine jl rfl rfl rfl (ay rfl rfl rfl zG rfl rfl (by rfl) ⟨zD, ?_⟩)
 try dsimp only [St.put]
 refine gn rfl rfl rfl rfl (ay rfl rfl rfl zG rfl rfl (by rfl) ?_)
 refine ij ?_
 dsimp only [St.put]
 refine K2 _ ?_
 refine dg (i := 5) rfl zG (by first | exact List.cons_ne_nil _ _ | (simp; done) | (simp [putAt]; done)) ?_
 refine dg (i := 6) rfl zG (by first | exact List.cons_ne_nil _ _ | (simp; done) | (simp [putAt]; done)) ?_
 dsimp only
 refine yS fun _ K3 => ?_
 refine gj [(0, none), (1, none), (2, none), (3, none)] (fun i => [2].contains i) (fun i => [2].contains i) (fun i => [0, 1, 3].contains i) [] (by kernel_rfl) (by kernel_rfl) ?_
 (refine ah rfl rfl rfl rfl (px (sz := 1) (m := 3) (e := 3) (rows := (j4 a).map cells) rfl rfl rfl rfl (fun r hr => by obtain ⟨y, _, rfl⟩ := List.mem_map.1 hr; rfl) (by decide) (by decide)) ?_)
 (refine ah rfl rfl rfl rfl (px (sz := 1) (m := 3) (e := 3) (rows := (j4 b).map cells) rfl rfl rfl rfl (fun r hr => by obtain ⟨y, _, rfl⟩ := List.mem_map.1 hr; rfl) (by decide) (by decide)) ?_)
 refine il ?_
 try dsimp only [St.put]
 refine gn rfl rfl rfl rfl (bd rfl rfl rfl (xc (j4 a) (j4 b) (by show 3 ≤ 1000; decide) (by show 3 ≤ 1000; decide)) ?_)
 refine jk rfl rfl rfl rfl (cg rfl (by constructor)) ?_
 refine ij ?_
 dsimp only [St.put]
 refine K3 _ ?_
 refine am ?_
 refine bf rfl (by constructor) zN zS ?_
 rfl
theorem xe (t : ai) (e : av) (n m V : Nat) (f : L2 → Option L2) (p : PlaceD) (hp : -100000 ≤ p.wd ∧ p.wd ≤ 100000) (G : Nat → Option GObj) (nx : Nat) (hn : n < nx) (hm : m < nx) (hG : G n = some (bo Tryz.prog 115 V (az f))) :
  PC Tryz.prog 55 [val p, (.elem [.elem (gi t e n m)])] G nx fun r' G' nx' => r' = val (rfV f p) ∧ G' = G ∧ nx' = nx := by
 refine l8 (G) (nx) Tryz.func55 rfl ((dq _ _)) zN (fun hlt => zH) ?_
 simp only [Tryz.ntmps55, List.length_cons, List.length_nil, Nat.reduceAdd, Nat.reduceSub]
 refine bi fun hlt => ?_
 dsimp only at hlt
 refine yS fun _ K1 => ?_
 refine yR ?_
 try dsimp only [St.put]
 refine yB rfl rfl rfl ?_
 try dsimp only [St.put]
 refine ae rfl (bp rfl ?_)
 refine yN ?_
 dsimp only [St.put]
 refine K1 _ ?_
 refine yS fun _ K2 => ?_
 refine yR ?_
 refine yL rfl rfl rfl ?_
 refine yE rfl rfl rfl ?_
 try dsimp only [St.put]
 refine ae rfl (f8 rfl rfl rfl (pd t e _ _ _ f p hp _ _ (by dsimp only [St.put]; omega) (by dsimp only [St.put]; omega) zG) ?_)
 refine yM rfl rfl ?_
 refine yX rfl rfl rfl rfl ?_
 refine yX rfl rfl rfl rfl ?_
 try dsimp only [St.put]
 refine ae rfl (bp rfl ?_)
 try dsimp only [St.put]
 refine ae rfl (ay rfl rfl rfl zG rfl rfl (by rfl) ?_)
 refine yA rfl rfl ?_
 refine yN ?_
 dsimp only [St.put]
 refine K2 _ ?_
 refine yS fun _ K3 => ?_
 refine yR ?_
 try dsimp only [St.put]
 refine af rfl (dc rfl rfl zG trivial (by rfl)) ?_
 try dsimp only [St.put]
 refine ae rfl (ay rfl rfl rfl zG rfl rfl (by rfl) ?_)
 refine yN ?_
 dsimp only [St.put]
 refine K3 _ ?_
 refine am ?_
 refine lp rfl (et rfl zG (by rfl) (by first | exact List.cons_ne_nil _ _ | (simp; done) | (simp [putAt]; done)) rfl) zN zS ?_
 exact zW
theorem uks (t : ai) (e : av) (n m V : Nat) (f : L2 → Option L2) (p q : PlaceD) (hp : -100000 ≤ p.wd ∧ p.wd ≤ 100000) (hq : -100000 ≤ q.wd ∧ q.wd ≤ 100000) (G : Nat → Option GObj) (nx : Nat) (hn : n < nx) (hm : m < nx) (hG : G n = some (bo Tryz.prog 115 V (az f))) :
  PC Tryz.prog 58 [val p, val q, (.elem [.fn (.func 55) [(.elem [.elem (gi t e n m)])]])] G nx fun r' G' nx' => r' = .v (.int .i64 (fp (g6 f p) (g6 f q))) ∧ G' = G ∧ nx' = nx := by
 refine l8 (G) (nx) Tryz.func58 rfl (.v) zN (fun hlt => zH) ?_
 simp only [Tryz.ntmps58, List.length_cons, List.length_nil, Nat.reduceAdd, Nat.reduceSub]
 refine bi fun hlt => ?_
 dsimp only at hlt
 refine yS fun _ K1 => ?_
 refine yR ?_
 try dsimp only [St.put]
 refine yB rfl rfl rfl ?_
 try dsimp only [St.put]
 refine yB rfl rfl rfl ?_
 refine yA rfl rfl ?_
 refine yN ?_
 dsimp only [St.put]
 refine K1 _ ?_
 refine yS fun _ K2 => ?_
 refine gj [(0, none), (1, none), (3, none), (4, none), (2, none), (5, none), (6, none), (7, none)] (fun i => [5, 6].contains i) (fun i => [2, 5, 6].contains i) (fun i => [7].contains i) [] (by kernel_rfl) (by kernel_rfl) ?_
 try dsimp only [St.put]
 refine aj rfl rfl rfl rfl (a7 rfl rfl) ?_
 try dsimp only [St.put]
 refine aj rfl rfl rfl rfl (aq rfl rfl (Enc.len _)) ?_
 try dsimp only [St.put]
 refine aj rfl rfl rfl rfl (a7 rfl rfl) ?_
 try dsimp only [St.put]
 refine aj rfl rfl rfl rfl (aq rfl rfl (Enc.len _)) ?_
 refine il ?_
 try dsimp only [St.put]
 refine jl rfl rfl rfl (f8 rfl rfl rfl (xe t e _ _ _ f p hp _ _ (by dsimp only [St.put]; omega) (by dsimp only [St.put]; omega) zG) ⟨zD, ?_⟩)
 try dsimp only [St.put]
 refine gn rfl rfl rfl rfl (f8 rfl rfl rfl (xe t e _ _ _ f q hq _ _ (by dsimp only [St.put]; omega) (by dsimp only [St.put]; omega) zG) ?_)
 try dsimp only [St.put]
 refine gn rfl rfl rfl rfl (bd rfl rfl rfl (zj (rfV f p) (rfV f q)) ?_)
 refine jk rfl rfl rfl rfl (cg rfl (by constructor)) ?_
 refine ij ?_
 dsimp only [St.put]
 refine K2 _ ?_
 refine am ?_
 refine bf rfl (by constructor) zN zS ?_
 rfl
theorem ukr (t : ai) (e : av) (n m V : Nat) (f : L2 → Option L2) (p : PlaceD) (r : dm) (hp : -100000 ≤ p.wd ∧ p.wd ≤ 100000) (G : Nat → Option GObj) (nx : Nat) (hn : n < nx) (hm : m < nx) (hG : G n = some (bo Tryz.prog 115 V (az f))) :
  PC Tryz.prog 61 [val p, (.elem [.fn (.func 55) [(.elem [.elem (gi t e n m)])]]), .elem (cells r)] G nx fun r' G' nx' => r' = .v (.int .i64 (fp (g6 f p) (j4 r))) ∧ G' = G ∧ nx' = nx := by
 refine l8 (G) (nx) Tryz.func61 rfl (.v) zN (fun hlt => zH) ?_
 simp only [Tryz.ntmps61, List.length_cons, List.length_nil, Nat.reduceAdd, Nat.reduceSub]
 refine bi fun hlt => ?_
 dsimp only at hlt
 refine yS fun _ K1 => ?_
 refine yR ?_
 try dsimp only [St.put]
 refine yB rfl rfl rfl ?_
 refine yA rfl rfl ?_
 refine yN ?_
 dsimp only [St.put]
 refine K1 _ ?_
 refine yS fun _ K2 => ?_
 refine gj [(0, none), (1, none), (3, none), (2, none), (4, none), (5, none)] (fun i => [4].contains i) (fun i => [2, 4].contains i) (fun i => [5].contains i) [] (by kernel_rfl) (by kernel_rfl) ?_
 try dsimp only [St.put]
 refine aj rfl rfl rfl rfl (a7 rfl rfl) ?_
 try dsimp only [St.put]
 refine aj rfl rfl rfl rfl (aq rfl rfl (Enc.len _)) ?_
 try dsimp only [St.put]
 refine aj rfl rfl rfl rfl (aq rfl rfl (Enc.len _)) ?_
 refine il ?_
 try dsimp only [St.put]
 refine jl rfl rfl rfl (f8 rfl rfl rfl (xe t e _ _ _ f p hp _ _ (by dsimp only [St.put]; omega) (by dsimp only [St.put]; omega) zG) ⟨zD, ?_⟩)
 try dsimp only [St.put]
 refine gn rfl rfl rfl rfl (bd rfl rfl rfl (zj (rfV f p) r) ?_)
 refine jk rfl rfl rfl rfl (cg rfl (by constructor)) ?_
 refine ij ?_
 dsimp only [St.put]
 refine K2 _ ?_
 refine am ?_
 refine bf rfl (by constructor) zN zS ?_
 rfl
set_option maxHeartbeats 1000000 in
theorem ulo (t : ai) (e : av) (r : dm) (hl : e.ss.length ≤ 20) (h : bz t e = 0) (hr : gx r = true) :
  da cv Tryz.prog 22 [b8 t, val e, val r] (.tup [lst (kp t e r), .v (.int .i64 (jq t e r))]) := by
 refine fy Tryz.func22 rfl (fun m => .tup (ar (bh _ _) (ar .v bl))) fun G nx hF => ?_
 simp only [Tryz.ntmps22, List.length_cons, List.length_nil, Nat.reduceAdd, Nat.reduceSub]
 refine bi fun hlt => ?_
 dsimp only at hlt
 have hnx := hlt 0 _ hF
 have hS := mn h
 have hWl := uf hS.tx (ax e.ss) (d9 t)
 have hLl := ov hS.tx
 have hWp : ∀ q ∈ fw t (ax e.ss), PBdP q := fun q hq => udp hS.tx hq
 refine yS fun _ K1 => ?_
 refine yR ?_
 try dsimp only [St.put]
 refine yB rfl rfl rfl ?_
 try dsimp only [St.put]
 refine yB rfl rfl rfl ?_
 try dsimp only [St.put]
 refine yB rfl rfl rfl ?_
 refine yA rfl rfl ?_
 refine yA rfl rfl ?_
 refine yN ?_
 dsimp only [St.put]
 refine K1 _ ?_
 refine yS fun _ K2 => ?_
 refine yR ?_
 try dsimp only [St.put]
 refine af rfl (aq rfl rfl rfl) ?_
 refine yE rfl rfl rfl ?_
 refine yE rfl rfl rfl ?_
 try dsimp only [St.put]
 refine ae rfl (c9 rfl rfl rfl (by decide) (by decide) zR (by decide) ?_)
 try dsimp only [St.put]
 refine ae rfl (i0 rfl rfl rfl (zu t e r hl h hr _ _ zG) (fun y => ?_))
 refine yM rfl rfl ?_
 refine yX rfl rfl rfl rfl ?_
 refine yX rfl rfl rfl rfl ?_
 refine yA rfl rfl ?_
 refine yA rfl rfl ?_
 refine yN ?_
 dsimp only [St.put]
 refine K2 _ ?_
 refine yS fun _ K3 => ?_
 refine yS fun _ K4 => ?_
 refine yR ?_
 refine yM rfl rfl ?_
 refine aa rfl (bt (c := false) (dt rfl rfl rfl) (by rfl)) ?_
 refine yN ?_
 dsimp only [St.put]
 refine K4 _ ?_
 refine al rfl (fun h => by cases h) (fun _ => ?_)
 refine aw ?_
 refine K3 _ ?_
 refine yS fun _ K5 => ?_
 refine yR ?_
 refine yM rfl rfl ?_
 try dsimp only [St.put]
 refine aa rfl (b7 (k := 0) rfl rfl rfl (by first | rfl | omega) rfl rfl) ?_
 refine yL rfl rfl rfl ?_
 try dsimp only [St.put]
 refine ae rfl (bp rfl ?_)
 try dsimp only [St.put]
 refine ae rfl (ay rfl rfl rfl zG rfl rfl (by rfl) ?_)
 refine yN ?_
 dsimp only [St.put]
 refine K5 _ ?_
 refine dg (i := 10) rfl zG (by first | exact List.cons_ne_nil _ _ | (simp; done) | (simp [putAt]; done)) ?_
 dsimp only
 refine yS fun _ K6 => ?_
 refine yS fun _ K7 => ?_
 refine yR ?_
 refine yL rfl rfl rfl ?_
 refine yE rfl rfl rfl ?_
 try dsimp only [St.put]
 refine ae rfl (f8 rfl rfl rfl (rp t e _ _ _ (cn e.ss) r hS.tx (rq hS) hr _ _ (by dsimp only [St.put]; omega) (by dsimp only [St.put]; omega) zG) ?_)
 refine yM rfl rfl ?_
 refine yX rfl rfl rfl rfl ?_
 refine yX rfl rfl rfl rfl ?_
 try dsimp only [St.put]
 refine ae rfl (bp rfl ?_)
 try dsimp only [St.put]
 refine ae rfl (ay rfl rfl rfl zG rfl rfl (by rfl) ?_)
 refine yA rfl rfl ?_
 refine yN ?_
 dsimp only [St.put]
 refine K7 _ ?_
 refine yS fun _ K8 => ?_
 refine yR ?_
 refine yM rfl rfl ?_
 refine yN ?_
 dsimp only [St.put]
 refine K8 _ ?_
 refine al rfl (fun hc => ?_) (fun hc => ?_)
 ·have hf : (iv t e.ss r).isSome = true := by simpa [j9] using hc
  obtain ⟨p, hp⟩ := Option.isSome_iff_exists.1 hf
  have hL : nm t e.ss r = [p] := by simp [nm, hp]
  have hE : jq t e r = 0 := by simp [jq, h, hr, hL]
  have hV : kp t e r = [p] := by simp [kp, hE, hL]
  have hpd : (ldO t (cn e.ss) r).getD ⟨0, 0, 0⟩ = p := by rw [j9, hp]; rfl
  rw [hpd]
  refine yS fun _ K9 => ?_
  refine yR ?_
  try dsimp only [St.put]
  refine af rfl (dc rfl rfl zG trivial (by rfl)) ?_
  try dsimp only [St.put]
  refine ae rfl (c9 rfl rfl rfl (by decide) (by decide) zR (by decide) ?_)
  refine yA rfl rfl ?_
  refine yA rfl rfl ?_
  refine yN ?_
  dsimp only [St.put]
  refine K9 _ ?_
  refine am ?_
  refine dv rfl (cj (by constructor)) (cj (by constructor)) zN zS ?_ ?_
  ·rw [hV]
   exact zW
  exact Wk.of_eq (vi hE.symm)
 have hf : iv t e.ss r = none := by simpa [j9] using hc
 refine aw ?_
 refine K6 _ ?_
 refine yS fun _ K10 => ?_
 refine yR ?_
 refine aa rfl (m8 rfl rfl) ?_
 try dsimp only [St.put]
 refine ae rfl (bp rfl ?_)
 try dsimp only [St.put]
 refine ae rfl (ay rfl rfl rfl zG rfl rfl (by rfl) ?_)
 refine yN ?_
 dsimp only [St.put]
 refine K10 _ ?_
 refine dg (i := 13) rfl zG (by first | exact List.cons_ne_nil _ _ | (simp; done) | (simp [putAt]; done)) ?_
 dsimp only
 refine yS fun _ K11 => ?_
 refine yR ?_
 refine yL rfl rfl rfl ?_
 try dsimp only [St.put]
 refine ae rfl (uj4 rfl rfl rfl (x8 t e (ax e.ss) _ _ _ hS.tx _ _ (by dsimp only [St.put]; omega) (by dsimp only [St.put]; omega) zG) ?_)
 refine yA rfl rfl ?_
 refine yN ?_
 dsimp only [St.put]
 refine K11 _ ?_
 refine yS fun _ K12 => ?_
 refine yR ?_
 refine yM rfl rfl ?_
 refine aa rfl (m8 rfl rfl) ?_
 try dsimp only [St.put]
 refine ae rfl (ub3 uez PBdP (fun a b => fp (g6 (ax e.ss) a) (g6 (ax e.ss) b)) rfl rfl rfl rfl zG rfl rfl rfl (fun y hy => hy.plain) hWp (by unfold fw; omega) (fun a b ha hb => uks t e _ _ _ (ax e.ss) a b (by obtain ⟨_, _, h3⟩ := ha; omega) (by obtain ⟨_, _, h3⟩ := hb; omega) _ _ (by dsimp only [St.put]; omega) (by dsimp only [St.put]; omega) zG) (uh6 _) (fun ys hperm hsort => ?_))
 refine yN ?_
 dsimp only [St.put]
 have hlen := hperm.length_eq
 have hL := ucg hS hr hf hperm hsort
 refine K12 _ ?_
 refine uc5 14 ys rfl zG rfl rfl hlen.symm ?_
 dsimp only
 refine yS fun _ K13 => ?_
 refine yR ?_
 refine yM rfl rfl ?_
 refine aa rfl (m8 rfl rfl) ?_
 try dsimp only [St.put]
 refine ae rfl (f8 rfl rfl rfl (ucz ys (fun q => fp (g6 (ax e.ss) q) (j4 r)) 61 [.elem [.fn (.func 55) [.elem [.elem (gi t e (nx + 1 + 1) (nx + 1 + 1 + 1))]]], .elem (cells r)] _ _ (by unfold fw at hlen; omega) (ar (.elem (ar (.fn (ar (.elem (ar (ucy _ _ (by dsimp only [St.put]; omega) (by dsimp only [St.put]; omega)) bl)) bl)) bl)) (ar (e9 _ _) bl)) (by intro c hc; simp only [List.mem_cons, List.not_mem_nil, or_false] at hc; rcases hc with rfl | rfl <;> rfl) fun q hq => ukr t e _ _ _ (ax e.ss) q r (by obtain ⟨_, _, h3⟩ := hWp q (hperm.mem_iff.1 hq); omega) _ _ (by dsimp only [St.put]; omega) (by dsimp only [St.put]; omega) zG) ?_)
 refine yX rfl rfl rfl rfl ?_
 refine yX rfl rfl rfl rfl ?_
 refine yA rfl rfl ?_
 refine yA rfl rfl ?_
 refine yN ?_
 dsimp only [St.put]
 rw [hL]
 have hE : jq t e r = pf ys (ii ys fun q => fp (g6 (ax e.ss) q) (j4 r)) := by simp [jq, h, hr, pf, hL]
 have hV : kp t e r = nm t e.ss r := by
  by_cases h0 : nm t e.ss r = []
  ·simp [kp, h0]
  have : jq t e r = 0 := by simp [jq, h, hr, h0]
  simp [kp, this]
 refine K13 _ ?_
 refine am ?_
 refine je rfl (by constructor) (by constructor) zN zS ?_ ?_
 ·rw [hV]
  rfl
 exact vi hE.symm
theorem ucs (t : ai) (e : av) (r : dm) (er : Int) (he0 : er ≠ 0) (hcall : da cv Tryz.prog 47 [b8 t, val r, lst [e]] (.tup [.list [] .nil, .v (.int .i64 er)])) :
  da cv Tryz.prog 22 [b8 t, val e, val r] (.tup [lst ([] : List PlaceD), .v (.int .i64 er)]) := by
 refine fy Tryz.func22 rfl (fun m => .tup (ar (bh _ _) (ar .v bl))) fun G nx hF => ?_
 simp only [Tryz.ntmps22, List.length_cons, List.length_nil, Nat.reduceAdd, Nat.reduceSub]
 refine bi fun hlt => ?_
 dsimp only at hlt
 have hnx := hlt 0 _ hF
 refine yS fun _ K1 => ?_
 refine yR ?_
 try dsimp only [St.put]
 refine yB rfl rfl rfl ?_
 try dsimp only [St.put]
 refine yB rfl rfl rfl ?_
 try dsimp only [St.put]
 refine yB rfl rfl rfl ?_
 refine yA rfl rfl ?_
 refine yA rfl rfl ?_
 refine yN ?_
 dsimp only [St.put]
 refine K1 _ ?_
 refine yS fun _ K2 => ?_
 refine yR ?_
 try dsimp only [St.put]
 refine af rfl (aq rfl rfl rfl) ?_
 refine yE rfl rfl rfl ?_
 refine yE rfl rfl rfl ?_
 try dsimp only [St.put]
 refine ae rfl (c9 rfl rfl rfl (by decide) (by decide) zR (by decide) ?_)
 try dsimp only [St.put]
 refine ae rfl (eb rfl rfl rfl (hcall) zG ?_)
 refine yM rfl rfl ?_
 refine yX rfl rfl rfl rfl ?_
 refine yX rfl rfl rfl rfl ?_
 refine yA rfl rfl ?_
 refine yA rfl rfl ?_
 refine yN ?_
 dsimp only [St.put]
 refine K2 _ ?_
 refine yS fun _ K3 => ?_
 refine yS fun _ K4 => ?_
 refine yR ?_
 refine yM rfl rfl ?_
 refine aa rfl (bt (c := true) (dt rfl rfl rfl) (kh he0)) ?_
 refine yN ?_
 dsimp only [St.put]
 refine K4 _ ?_
 refine al rfl (fun _ => ?_) (fun h => by cases h)
 refine yS fun _ K5 => ?_
 refine yR ?_
 refine yM rfl rfl ?_
 refine yA rfl rfl ?_
 refine yA rfl rfl ?_
 refine yN ?_
 dsimp only [St.put]
 refine K5 _ ?_
 refine am ?_
 refine dv rfl (cj (by constructor)) (cj (by constructor)) zN zS ?_ ?_
 ·exact zW
 exact zW
theorem uln (t : ai) (e : av) (r : dm) (hl : e.ss.length ≤ 20) :
  da cv Tryz.prog 22 [b8 t, val e, val r] (.tup [lst (kp t e r), .v (.int .i64 (jq t e r))]) := by
 by_cases h : bz t e = 0
 ·cases hr : gx r with
  | true => exact ulo t e r hl h hr
  | false =>
   have hE : jq t e r = 2 := by simp [jq, h, hr]
   have hV : kp t e r = [] := by simp [kp, hE]
   rw [hV, hE]
   exact ucs t e r 2 (by decide) (zv t e r hl h hr)
 have hE : jq t e r = bz t e := by simp [jq, h]
 have hV : kp t e r = [] := by simp [kp, hE, h]
 rw [hV, hE]
 exact ucs t e r _ h (vc t r [e] _ h (qr t e hl h))
end Go.Proofs.YtjjklfgpffgnfaaGreatDoor
