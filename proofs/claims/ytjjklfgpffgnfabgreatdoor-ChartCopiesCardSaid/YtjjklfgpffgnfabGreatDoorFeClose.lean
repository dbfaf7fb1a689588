/-
 Contracts of the program's functions of charts: the places of the nearest references.
-/
import Derived.Test.YtjjklfgpffgnfabGreatDoorFdNear
import Derived.Test.YtjjklfgpffgnfabGreatDoorEeTurn
namespace Go.AB
open Go Go.RowKit
open Go.AB.Enc (cells)
open Go.PB (bh af PlaceD ar bp cj)
def ka (r : dd) : List Int := [r.ch, r.ln, r.wd]
/-- the numbers of a place's reference -/
def gy (f : L2 → Option L2) (q : PlaceD) : List Int := ka (rfV f q)
theorem ya {f : L2 → Option L2} {q : PlaceD} {v : L2} (h : f (q.ch, q.ln) = some v) : gy f q = [v.1, v.2, q.wd + 1] := by simp [gy, rfV, h, ka]
theorem uc2 {t : af} {ss : List StretchD} (hS : Sound t ss) : p6 (fh t (av ss)) (gy (av ss)) 3 := ⟨fun _ _ => rfl, fun a ha b hb h => by
 obtain ⟨v, hv⟩ := Option.isSome_iff_exists.1 (mem_words.1 ha).2
 obtain ⟨u, hu⟩ := Option.isSome_iff_exists.1 (mem_words.1 hb).2
 rw [ya hv, ya hu] at h
 simp only [List.cons.injEq, and_true] at h
 have hvu : v = u := Prod.ext h.1 h.2.1
 subst hvu
 have h1 := (kp hS.no).2 hv
 have h2 := (kp hS.no).2 hu
 rw [h1] at h2
 have h3 := Option.some.inj h2
 simp only [Prod.mk.injEq] at h3
 obtain ⟨a1, a2, a3⟩ := a
 obtain ⟨b1, b2, b3⟩ := b
 simp only [PlaceD.mk.injEq]
 simp only at h3 h
 omega⟩
noncomputable def ny (t : af) (ss : List StretchD) (r : dd) : List PlaceD := match iu t ss r with
 | some p => [p]
 | none => ud (fh t (av ss)) (gy (av ss)) (ka r)
noncomputable def jy (t : af) (e : aw) (r : dd) : Int := bif decide (cb t e = 0) then (bif gt r then (bif decide (ny t e.ss r = []) then 6 else 0) else 2) else cb t e
noncomputable def kz (t : af) (e : aw) (r : dd) : List PlaceD := bif decide (jy t e r = 0) then ny t e.ss r else []
theorem uow {t : af} {ss : List StretchD} (hS : Sound t ss) {r : dd} (hr : gt r = true) (hno : iu t ss r = none) : ∀ y ∈ fh t (av ss), gy (av ss) y ≠ ka r := fun y hy e => by
 obtain ⟨h1, h2⟩ := mem_words.1 hy
 obtain ⟨v, hv⟩ := Option.isSome_iff_exists.1 h2
 rw [ya hv] at e
 simp only [ka, List.cons.injEq, and_true] at e
 obtain ⟨e1, e2, e3⟩ := e
 obtain ⟨l, hw, hw1, hw2⟩ := placeB_true.1 h1
 have hb := (kp hS.no).2 hv
 rw [show v = (r.ch, r.ln) from Prod.ext e1 e2] at hb
 unfold iu at hno
 rw [hb] at hno
 simp only [hw, Option.getD_some] at hno
 rw [decide_eq_false (show ¬ (l.length : Int) < r.wd by omega)] at hno
 cases hno
theorem uhu {S : List PlaceD} {key : PlaceD → List Int} {n : Nat} (hk : p6 S key n) {ys : List PlaceD} (hp : ys.Perm S) (hs : ys.Pairwise fun a b => ¬ fb (key b) (key a) < 0) (hn : S.Nodup) : ys.Pairwise fun a b => ltW (key a) (key b) := by
 have h1 : ys.Pairwise fun a b => ¬ fb (key b) (key a) < 0 ∧ a ≠ b := List.pairwise_and_iff.2 ⟨hs, hp.nodup_iff.2 hn⟩
 refine List.Pairwise.imp_of_mem (fun {a b} ha hb ⟨h2, h3⟩ => ?_) h1
 have ha' := hp.mem_iff.1 ha
 have hb' := hp.mem_iff.1 hb
 rw [vo ((hk.len b hb').trans (hk.len a ha').symm)] at h2
 exact Classical.byContradiction fun h4 => h3 (hk.inj a ha' b hb' (qo ((hk.len a ha').trans (hk.len b hb').symm) h4 h2))
theorem uf5 (t : af) (f : L2 → Option L2) : (fh t f).Nodup :=
 (zx t f).imp fun {a b} h e => by subst e; exact nk _ h
theorem ueo {t : af} {ss : List StretchD} (hS : Sound t ss) {r : dd} (hr : gt r = true) (hno : iu t ss r = none) {ys : List PlaceD} (hp : ys.Perm (fh t (av ss))) (hs : ys.Pairwise fun a b => ¬ fb (gy (av ss) b) (gy (av ss) a) < 0) :
  lj ys (ii ys fun q => fb (gy (av ss) q) (ka r)) = ny t ss r := by
 have h1 := uef (l := ys) (key := gy (av ss)) (x := ka r) (n := 3) rfl (fun _ _ => rfl) (uhu (uc2 hS) hp hs (uf5 _ _)) fun y hy => uow hS hr hno y (hp.mem_iff.1 hy)
 unfold ny
 rw [hno]
 exact (ubw (uc2 hS) (h1.congr fun y => hp.mem_iff)).symm
def PBdP (q : PlaceD) : Prop := (0 ≤ q.ch ∧ q.ch ≤ 100000) ∧ (0 ≤ q.ln ∧ q.ln ≤ 100000) ∧ 0 ≤ q.wd ∧ q.wd ≤ 100000
theorem PBdP.plain {a : PlaceD} (h : PBdP a) : Plain (cells a) := fun c hc => by
 obtain ⟨h1, h2, h3⟩ := h
 have hc' : c ∈ [C.v (.int .i64 a.ch), C.v (.int .i64 a.ln), C.v (.int .i64 a.wd)] := hc
 simp only [List.mem_cons, List.not_mem_nil, or_false] at hc'
 rcases hc' with rfl | rfl | rfl
 ·exact ⟨_, rfl, jq (by omega)⟩
 ·exact ⟨_, rfl, jq (by omega)⟩
 exact ⟨_, rfl, jq (by omega)⟩
theorem uf4 {t : af} (ht : bw t = true) {f : L2 → Option L2} {q : PlaceD} (h : q ∈ fh t f) : PBdP q := by
 obtain ⟨l, hw, hw1, hw2⟩ := placeB_true.1 (mem_words.1 h).1
 have := m6 ht hw
 exact ⟨by omega, by omega, by omega, by omega⟩
theorem ul6 {p : PlaceD → Prop} (f : L2 → Option L2) : Ord3 p fun a b => fb (gy f a) (gy f b) := by
 have key : ∀ a b, fb (gy f a) (gy f b) < 0 ↔ ltW (gy f a) (gy f b) := fun a b => vo rfl
 refine ⟨fun x _ => ?_, fun x y z _ _ _ h k => ?_, fun x y z _ _ _ h k => ?_⟩
 ·rw [key]; exact nk _
 ·rw [key] at h k ⊢; exact oa h k
 rw [key] at h k ⊢
 intro hxz
 by_cases h1 : ltW (gy f y) (gy f x)
 ·exact k (oa h1 hxz)
 rw [qo (a := gy f x) (b := gy f y) rfl h h1] at hxz; exact k hxz
end Go.AB
namespace Go.Proofs.YtjjklfgpffgnfabGreatDoor
set_option maxRecDepth 10000
open Go.RowKit Go.AB
open Go.AB.Enc (cells)
open Go.PB (bh af PlaceD ar bp cj)
instance : Ty Tryz.prog (srt_Place_ren.t 24) true (Enc.n PlaceD) := inferInstanceAs (Ty Tryz.prog 49 true 3)
theorem ubg (a b : dd) : ce Tryz.prog 49 [val a, val b] (.v (.int .i64 (fb (ka a) (ka b)))) := by
 refine cv Tryz.func49 rfl (fun m => .v) fun G nx => ?_
 simp only [Tryz.ntmps49, List.length_cons, List.length_nil, Nat.reduceAdd, Nat.reduceSub]
 refine bf fun hlt => ?_
 dsimp only at hlt
 refine yS fun _ K1 => ?_
 refine yR ?_
 try dsimp only [St.put]
 refine yB rfl rfl rfl ?_
 try dsimp only [St.put]
 refine yB rfl rfl rfl ?_
 refine yA rfl rfl ?_
 refine yN ?_
 dsimp only [St.put]
 refine K1 _ ?_
 refine yS fun _ K2 => ?_
 refine gh [(0, none), (1, none), (2, none), (3, none), (4, none), (5, none), (6, none), (7, none), (8, none), (9, none), (10, none), (11, none), (12, none), (13, none), (14, some 15), (16, none), (17, none)] (fun i => [17].contains i) (fun i => [14, 15, 16, 17].contains i) (fun i => [0, 2, 4, 6, 7, 9, 11, 13].contains i) [] (by kernel_rfl) (by kernel_rfl) ?_
 refine ai rfl rfl rfl rfl (cd rfl rfl rfl) ?_
 try dsimp only [St.put]
 refine az rfl rfl rfl rfl (bq rfl rfl) ?_
 refine ai rfl rfl rfl rfl (cd rfl rfl rfl) ?_
 try dsimp only [St.put]
 refine az rfl rfl rfl rfl (bq rfl rfl) ?_
 refine ai rfl rfl rfl rfl (cd rfl rfl rfl) ?_
 try dsimp only [St.put]
 refine az rfl rfl rfl rfl (bq rfl rfl) ?_
 refine ai rfl rfl rfl rfl (i3 rfl rfl) ?_
 refine ai rfl rfl rfl rfl (cd rfl rfl rfl) ?_
 try dsimp only [St.put]
 refine az rfl rfl rfl rfl (bq rfl rfl) ?_
 refine ai rfl rfl rfl rfl (cd rfl rfl rfl) ?_
 try dsimp only [St.put]
 refine az rfl rfl rfl rfl (bq rfl rfl) ?_
 refine ai rfl rfl rfl rfl (cd rfl rfl rfl) ?_
 try dsimp only [St.put]
 refine az rfl rfl rfl rfl (bq rfl rfl) ?_
 refine ai rfl rfl rfl rfl (i3 rfl rfl) ?_
 refine il ?_
 refine ufq rfl rfl rfl rfl rfl rfl rfl rfl (by decide) (by simp) ?_
 try dsimp only [St.put]
 refine jp rfl rfl rfl (ax rfl rfl rfl zG rfl rfl (by rfl) ⟨zD, ?_⟩)
 try dsimp only [St.put]
 refine gl rfl rfl rfl rfl (ax rfl rfl rfl zG rfl rfl (by rfl) ?_)
 refine ij ?_
 dsimp only [St.put]
 refine K2 _ ?_
 refine cw (i := 5) rfl zG (by first | exact List.cons_ne_nil _ _ | (simp; done) | (simp [putAt]; done)) ?_
 refine cw (i := 6) rfl zG (by first | exact List.cons_ne_nil _ _ | (simp; done) | (simp [putAt]; done)) ?_
 dsimp only
 refine yS fun _ K3 => ?_
 refine gh [(0, none), (1, none), (2, none), (3, none)] (fun i => [2].contains i) (fun i => [2].contains i) (fun i => [0, 1, 3].contains i) [] (by kernel_rfl) (by kernel_rfl) ?_
 (refine ai rfl rfl rfl rfl (qj (sz := 1) (m := 3) (e := 3) (rows := (ka a).map cells) rfl rfl rfl rfl (fun r hr => by obtain ⟨y, _, rfl⟩ := List.mem_map.1 hr; rfl) (by decide) (by decide)) ?_)
 (refine ai rfl rfl rfl rfl (qj (sz := 1) (m := 3) (e := 3) (rows := (ka b).map cells) rfl rfl rfl rfl (fun r hr => by obtain ⟨y, _, rfl⟩ := List.mem_map.1 hr; rfl) (by decide) (by decide)) ?_)
 refine il ?_
 try dsimp only [St.put]
 refine gl rfl rfl rfl rfl (a7 rfl rfl rfl (yz (ka a) (ka b) (by show 3 ≤ 1000; decide) (by show 3 ≤ 1000; decide)) ?_)
 refine jl rfl rfl rfl rfl (eh rfl (by constructor)) ?_
 refine ij ?_
 dsimp only [St.put]
 refine K3 _ ?_
 refine aj ?_
 refine ay rfl (by constructor) zN zS ?_
 rfl
theorem y5 (t : af) (e : aw) (n m V : Nat) (f : L2 → Option L2) (p : PlaceD) (hp : -100000 ≤ p.wd ∧ p.wd ≤ 100000) (G : Nat → Option GObj) (nx : Nat) (hn : n < nx) (hm : m < nx) (hG : G n = some (bl Tryz.prog 95 V (a8 f))) :
  PC Tryz.prog 44 [val p, (.elem [.elem (gg t e n m)])] G nx fun r' G' nx' => r' = val (rfV f p) ∧ G' = G ∧ nx' = nx := by
 refine j6 (G) (nx) Tryz.func44 rfl ((da _ _)) zN (fun hlt => zH) ?_
 simp only [Tryz.ntmps44, List.length_cons, List.length_nil, Nat.reduceAdd, Nat.reduceSub]
 refine bf fun hlt => ?_
 dsimp only at hlt
 refine yS fun _ K1 => ?_
 refine yR ?_
 try dsimp only [St.put]
 refine yB rfl rfl rfl ?_
 try dsimp only [St.put]
 refine ae rfl (bj rfl ?_)
 refine yN ?_
 dsimp only [St.put]
 refine K1 _ ?_
 refine yS fun _ K2 => ?_
 refine yR ?_
 refine yL rfl rfl rfl ?_
 refine yE rfl rfl rfl ?_
 try dsimp only [St.put]
 refine ae rfl (fg rfl rfl rfl (pv t e _ _ _ f p hp _ _ (by dsimp only [St.put]; omega) (by dsimp only [St.put]; omega) zG) ?_)
 refine yM rfl rfl ?_
 refine yX rfl rfl rfl rfl ?_
 refine yX rfl rfl rfl rfl ?_
 try dsimp only [St.put]
 refine ae rfl (bj rfl ?_)
 try dsimp only [St.put]
 refine ae rfl (ax rfl rfl rfl zG rfl rfl (by rfl) ?_)
 refine yA rfl rfl ?_
 refine yN ?_
 dsimp only [St.put]
 refine K2 _ ?_
 refine yS fun _ K3 => ?_
 refine yR ?_
 try dsimp only [St.put]
 refine ba rfl (i6 rfl rfl zG trivial (by rfl)) ?_
 try dsimp only [St.put]
 refine ae rfl (ax rfl rfl rfl zG rfl rfl (by rfl) ?_)
 refine yN ?_
 dsimp only [St.put]
 refine K3 _ ?_
 refine aj ?_
 refine jw rfl (dr rfl zG (by rfl) (by first | exact List.cons_ne_nil _ _ | (simp; done) | (simp [putAt]; done)) rfl) zN zS ?_
 exact zW
theorem uoz (t : af) (e : aw) (n m V : Nat) (f : L2 → Option L2) (p q : PlaceD) (hp : -100000 ≤ p.wd ∧ p.wd ≤ 100000) (hq : -100000 ≤ q.wd ∧ q.wd ≤ 100000) (G : Nat → Option GObj) (nx : Nat) (hn : n < nx) (hm : m < nx) (hG : G n = some (bl Tryz.prog 95 V (a8 f))) :
  PC Tryz.prog 48 [val p, val q, (.elem [.fn (.func 44) [(.elem [.elem (gg t e n m)])]])] G nx fun r' G' nx' => r' = .v (.int .i64 (fb (gy f p) (gy f q))) ∧ G' = G ∧ nx' = nx := by
 refine j6 (G) (nx) Tryz.func48 rfl (.v) zN (fun hlt => zH) ?_
 simp only [Tryz.ntmps48, List.length_cons, List.length_nil, Nat.reduceAdd, Nat.reduceSub]
 refine bf fun hlt => ?_
 dsimp only at hlt
 refine yS fun _ K1 => ?_
 refine yR ?_
 try dsimp only [St.put]
 refine yB rfl rfl rfl ?_
 try dsimp only [St.put]
 refine yB rfl rfl rfl ?_
 refine yA rfl rfl ?_
 refine yN ?_
 dsimp only [St.put]
 refine K1 _ ?_
 refine yS fun _ K2 => ?_
 refine gh [(0, none), (1, none), (3, none), (4, none), (2, none), (5, none), (6, none), (7, none)] (fun i => [5, 6].contains i) (fun i => [2, 5, 6].contains i) (fun i => [7].contains i) [] (by kernel_rfl) (by kernel_rfl) ?_
 try dsimp only [St.put]
 refine az rfl rfl rfl rfl (bq rfl rfl) ?_
 try dsimp only [St.put]
 refine az rfl rfl rfl rfl (bk rfl rfl (Enc.len _)) ?_
 try dsimp only [St.put]
 refine az rfl rfl rfl rfl (bq rfl rfl) ?_
 try dsimp only [St.put]
 refine az rfl rfl rfl rfl (bk rfl rfl (Enc.len _)) ?_
 refine il ?_
 try dsimp only [St.put]
 refine jp rfl rfl rfl (fg rfl rfl rfl (y5 t e _ _ _ f p hp _ _ (by dsimp only [St.put]; omega) (by dsimp only [St.put]; omega) zG) ⟨zD, ?_⟩)
 try dsimp only [St.put]
 refine gl rfl rfl rfl rfl (fg rfl rfl rfl (y5 t e _ _ _ f q hq _ _ (by dsimp only [St.put]; omega) (by dsimp only [St.put]; omega) zG) ?_)
 try dsimp only [St.put]
 refine gl rfl rfl rfl rfl (a7 rfl rfl rfl (ubg (rfV f p) (rfV f q)) ?_)
 refine jl rfl rfl rfl rfl (eh rfl (by constructor)) ?_
 refine ij ?_
 dsimp only [St.put]
 refine K2 _ ?_
 refine aj ?_
 refine ay rfl (by constructor) zN zS ?_
 rfl
theorem uoy (t : af) (e : aw) (n m V : Nat) (f : L2 → Option L2) (p : PlaceD) (r : dd) (hp : -100000 ≤ p.wd ∧ p.wd ≤ 100000) (G : Nat → Option GObj) (nx : Nat) (hn : n < nx) (hm : m < nx) (hG : G n = some (bl Tryz.prog 95 V (a8 f))) :
  PC Tryz.prog 51 [val p, (.elem [.fn (.func 44) [(.elem [.elem (gg t e n m)])]]), .elem (cells r)] G nx fun r' G' nx' => r' = .v (.int .i64 (fb (gy f p) (ka r))) ∧ G' = G ∧ nx' = nx := by
 refine j6 (G) (nx) Tryz.func51 rfl (.v) zN (fun hlt => zH) ?_
 simp only [Tryz.ntmps51, List.length_cons, List.length_nil, Nat.reduceAdd, Nat.reduceSub]
 refine bf fun hlt => ?_
 dsimp only at hlt
 refine yS fun _ K1 => ?_
 refine yR ?_
 try dsimp only [St.put]
 refine yB rfl rfl rfl ?_
 refine yA rfl rfl ?_
 refine yN ?_
 dsimp only [St.put]
 refine K1 _ ?_
 refine yS fun _ K2 => ?_
 refine gh [(0, none), (1, none), (3, none), (2, none), (4, none), (5, none)] (fun i => [4].contains i) (fun i => [2, 4].contains i) (fun i => [5].contains i) [] (by kernel_rfl) (by kernel_rfl) ?_
 try dsimp only [St.put]
 refine az rfl rfl rfl rfl (bq rfl rfl) ?_
 try dsimp only [St.put]
 refine az rfl rfl rfl rfl (bk rfl rfl (Enc.len _)) ?_
 try dsimp only [St.put]
 refine az rfl rfl rfl rfl (bk rfl rfl (Enc.len _)) ?_
 refine il ?_
 try dsimp only [St.put]
 refine jp rfl rfl rfl (fg rfl rfl rfl (y5 t e _ _ _ f p hp _ _ (by dsimp only [St.put]; omega) (by dsimp only [St.put]; omega) zG) ⟨zD, ?_⟩)
 try dsimp only [St.put]
 refine gl rfl rfl rfl rfl (a7 rfl rfl rfl (ubg (rfV f p) r) ?_)
 refine jl rfl rfl rfl rfl (eh rfl (by constructor)) ?_
 refine ij ?_
 dsimp only [St.put]
 refine K2 _ ?_
 refine aj ?_
 refine ay rfl (by constructor) zN zS ?_
 rfl
set_option maxHeartbeats 1000000 in
theorem upm (t : af) (e : aw) (r : dd) (hl : e.ss.length ≤ 20) (h : cb t e = 0) (hr : gt r = true) :
  c8 cr Tryz.prog 11 [b7 t, val e, val r] (.tup [lst (kz t e r), .v (.int .i64 (jy t e r))]) := by
 refine fw Tryz.func11 rfl (fun m => .tup (am (bd _ _) (am .v bn))) fun G nx hF => ?_
 simp only [Tryz.ntmps11, List.length_cons, List.length_nil, Nat.reduceAdd, Nat.reduceSub]
 refine bf fun hlt => ?_
 dsimp only at hlt
 have hnx := hlt 0 _ hF
 have hS := mu h
 have hWl := vy hS.tx (av e.ss) (dn t)
 have hLl := pf hS.tx
 have hWp : ∀ q ∈ fh t (av e.ss), PBdP q := fun q hq => uf4 hS.tx hq
 refine yS fun _ K1 => ?_
 refine yR ?_
 try dsimp only [St.put]
 refine yB rfl rfl rfl ?_
 try dsimp only [St.put]
 refine yB rfl rfl rfl ?_
 try dsimp only [St.put]
 refine yB rfl rfl rfl ?_
 refine yA rfl rfl ?_
 refine yA rfl rfl ?_
 refine yN ?_
 dsimp only [St.put]
 refine K1 _ ?_
 refine yS fun _ K2 => ?_
 refine yR ?_
 try dsimp only [St.put]
 refine ba rfl (bk rfl rfl rfl) ?_
 refine yE rfl rfl rfl ?_
 refine yE rfl rfl rfl ?_
 try dsimp only [St.put]
 refine ae rfl (cq rfl rfl rfl (by decide) (by decide) zR (by decide) ?_)
 try dsimp only [St.put]
 refine ae rfl (iy rfl rfl rfl (ubp t e r hl h hr _ _ zG) (fun y => ?_))
 refine yM rfl rfl ?_
 refine yX rfl rfl rfl rfl ?_
 refine yX rfl rfl rfl rfl ?_
 refine yA rfl rfl ?_
 refine yA rfl rfl ?_
 refine yN ?_
 dsimp only [St.put]
 refine K2 _ ?_
 refine yS fun _ K3 => ?_
 refine yS fun _ K4 => ?_
 refine yR ?_
 refine yM rfl rfl ?_
 refine aa rfl (br (c := false) (cz rfl rfl rfl) (by rfl)) ?_
 refine yN ?_
 dsimp only [St.put]
 refine K4 _ ?_
 refine ak rfl (fun h => by cases h) (fun _ => ?_)
 refine aq ?_
 refine K3 _ ?_
 refine yS fun _ K5 => ?_
 refine yR ?_
 refine yM rfl rfl ?_
 try dsimp only [St.put]
 refine aa rfl (b8 (k := 0) rfl rfl rfl (by first | rfl | omega) rfl rfl) ?_
 refine yL rfl rfl rfl ?_
 try dsimp only [St.put]
 refine ae rfl (bj rfl ?_)
 try dsimp only [St.put]
 refine ae rfl (ax rfl rfl rfl zG rfl rfl (by rfl) ?_)
 refine yN ?_
 dsimp only [St.put]
 refine K5 _ ?_
 refine cw (i := 10) rfl zG (by first | exact List.cons_ne_nil _ _ | (simp; done) | (simp [putAt]; done)) ?_
 dsimp only
 refine yS fun _ K6 => ?_
 refine yS fun _ K7 => ?_
 refine yR ?_
 refine yL rfl rfl rfl ?_
 refine yE rfl rfl rfl ?_
 try dsimp only [St.put]
 refine ae rfl (fg rfl rfl rfl (s0 t e _ _ _ (cn e.ss) r hS.tx (s1 hS) hr _ _ (by dsimp only [St.put]; omega) (by dsimp only [St.put]; omega) zG) ?_)
 refine yM rfl rfl ?_
 refine yX rfl rfl rfl rfl ?_
 refine yX rfl rfl rfl rfl ?_
 try dsimp only [St.put]
 refine ae rfl (bj rfl ?_)
 try dsimp only [St.put]
 refine ae rfl (ax rfl rfl rfl zG rfl rfl (by rfl) ?_)
 refine yA rfl rfl ?_
 refine yN ?_
 dsimp only [St.put]
 refine K7 _ ?_
 refine yS fun _ K8 => ?_
 refine yR ?_
 refine yM rfl rfl ?_
 refine yN ?_
 dsimp only [St.put]
 refine K8 _ ?_
 refine ak rfl (fun hc => ?_) (fun hc => ?_)
 ·have hf : (iu t e.ss r).isSome = true := by simpa [kj] using hc
  obtain ⟨p, hp⟩ := Option.isSome_iff_exists.1 hf
  have hL : ny t e.ss r = [p] := by simp [ny, hp]
  have hE : jy t e r = 0 := by simp [jy, h, hr, hL]
  have hV : kz t e r = [p] := by simp [kz, hE, hL]
  have hpd : (ldO t (cn e.ss) r).getD ⟨0, 0, 0⟩ = p := by rw [kj, hp]; rfl
  rw [hpd]
  refine yS fun _ K9 => ?_
  refine yR ?_
  try dsimp only [St.put]
  refine ba rfl (i6 rfl rfl zG trivial (by rfl)) ?_
  try dsimp only [St.put]
  refine ae rfl (cq rfl rfl rfl (by decide) (by decide) zR (by decide) ?_)
  refine yA rfl rfl ?_
  refine yA rfl rfl ?_
  refine yN ?_
  dsimp only [St.put]
  refine K9 _ ?_
  refine aj ?_
  refine dj rfl (ci (by constructor)) (ci (by constructor)) zN zS ?_ ?_
  ·rw [hV]
   exact zW
  exact Wk.of_eq (vi hE.symm)
 have hf : iu t e.ss r = none := by simpa [kj] using hc
 refine aq ?_
 refine K6 _ ?_
 refine yS fun _ K10 => ?_
 refine yR ?_
 refine aa rfl (ng rfl rfl) ?_
 try dsimp only [St.put]
 refine ae rfl (bj rfl ?_)
 try dsimp only [St.put]
 refine ae rfl (ax rfl rfl rfl zG rfl rfl (by rfl) ?_)
 refine yN ?_
 dsimp only [St.put]
 refine K10 _ ?_
 refine cw (i := 13) rfl zG (by first | exact List.cons_ne_nil _ _ | (simp; done) | (simp [putAt]; done)) ?_
 dsimp only
 refine yS fun _ K11 => ?_
 refine yR ?_
 refine yL rfl rfl rfl ?_
 try dsimp only [St.put]
 refine ae rfl (un2 rfl rfl rfl (zy t e (av e.ss) _ _ _ hS.tx _ _ (by dsimp only [St.put]; omega) (by dsimp only [St.put]; omega) zG) ?_)
 refine yA rfl rfl ?_
 refine yN ?_
 dsimp only [St.put]
 refine K11 _ ?_
 refine yS fun _ K12 => ?_
 refine yR ?_
 refine yM rfl rfl ?_
 refine aa rfl (ng rfl rfl) ?_
 try dsimp only [St.put]
 refine ae rfl (ud5 uhh PBdP (fun a b => fb (gy (av e.ss) a) (gy (av e.ss) b)) rfl rfl rfl rfl zG rfl rfl rfl (fun y hy => hy.plain) hWp (by unfold fh; omega) (fun a b ha hb => uoz t e _ _ _ (av e.ss) a b (by obtain ⟨_, _, h3⟩ := ha; omega) (by obtain ⟨_, _, h3⟩ := hb; omega) _ _ (by dsimp only [St.put]; omega) (by dsimp only [St.put]; omega) zG) (ul6 _) (fun ys hperm hsort => ?_))
 refine yN ?_
 dsimp only [St.put]
 have hlen := hperm.length_eq
 have hL := ueo hS hr hf hperm hsort
 refine K12 _ ?_
 refine ufi 14 ys rfl zG rfl rfl hlen.symm ?_
 dsimp only
 refine yS fun _ K13 => ?_
 refine yR ?_
 refine yM rfl rfl ?_
 refine aa rfl (ng rfl rfl) ?_
 try dsimp only [St.put]
 refine ae rfl (fg rfl rfl rfl (ufd ys (fun q => fb (gy (av e.ss) q) (ka r)) 51 [.elem [.fn (.func 44) [.elem [.elem (gg t e (nx + 1 + 1) (nx + 1 + 1 + 1))]]], .elem (cells r)] _ _ (by unfold fh at hlen; omega) (am (.elem (am (.fn (am (.elem (am (ufb _ _ (by dsimp only [St.put]; omega) (by dsimp only [St.put]; omega)) bn)) bn)) bn)) (am (ed _ _) bn)) (by intro c hc; simp only [List.mem_cons, List.not_mem_nil, or_false] at hc; rcases hc with rfl | rfl <;> rfl) fun q hq => uoy t e _ _ _ (av e.ss) q r (by obtain ⟨_, _, h3⟩ := hWp q (hperm.mem_iff.1 hq); omega) _ _ (by dsimp only [St.put]; omega) (by dsimp only [St.put]; omega) zG) ?_)
 refine yX rfl rfl rfl rfl ?_
 refine yX rfl rfl rfl rfl ?_
 refine yA rfl rfl ?_
 refine yA rfl rfl ?_
 refine yN ?_
 dsimp only [St.put]
 rw [hL]
 have hE : jy t e r = px ys (ii ys fun q => fb (gy (av e.ss) q) (ka r)) := by simp [jy, h, hr, px, hL]
 have hV : kz t e r = ny t e.ss r := by
  by_cases h0 : ny t e.ss r = []
  ·simp [kz, h0]
  have : jy t e r = 0 := by simp [jy, h, hr, h0]
  simp [kz, this]
 refine K13 _ ?_
 refine aj ?_
 refine ix rfl (by constructor) (by constructor) zN zS ?_ ?_
 ·rw [hV]
  rfl
 exact vi hE.symm
theorem ue2 (t : af) (e : aw) (r : dd) (er : Int) (he0 : er ≠ 0) (hcall : c8 cr Tryz.prog 42 [b7 t, val r, lst [e]] (.tup [.list [] .nil, .v (.int .i64 er)])) :
  c8 cr Tryz.prog 11 [b7 t, val e, val r] (.tup [lst ([] : List PlaceD), .v (.int .i64 er)]) := by
 refine fw Tryz.func11 rfl (fun m => .tup (am (bd _ _) (am .v bn))) fun G nx hF => ?_
 simp only [Tryz.ntmps11, List.length_cons, List.length_nil, Nat.reduceAdd, Nat.reduceSub]
 refine bf fun hlt => ?_
 dsimp only at hlt
 have hnx := hlt 0 _ hF
 refine yS fun _ K1 => ?_
 refine yR ?_
 try dsimp only [St.put]
 refine yB rfl rfl rfl ?_
 try dsimp only [St.put]
 refine yB rfl rfl rfl ?_
 try dsimp only [St.put]
 refine yB rfl rfl rfl ?_
 refine yA rfl rfl ?_
 refine yA rfl rfl ?_
 refine yN ?_
 dsimp only [St.put]
 refine K1 _ ?_
 refine yS fun _ K2 => ?_
 refine yR ?_
 try dsimp only [St.put]
 refine ba rfl (bk rfl rfl rfl) ?_
 refine yE rfl rfl rfl ?_
 refine yE rfl rfl rfl ?_
 try dsimp only [St.put]
 refine ae rfl (cq rfl rfl rfl (by decide) (by decide) zR (by decide) ?_)
 try dsimp only [St.put]
 refine ae rfl (dq rfl rfl rfl (hcall) zG ?_)
 refine yM rfl rfl ?_
 refine yX rfl rfl rfl rfl ?_
 refine yX rfl rfl rfl rfl ?_
 refine yA rfl rfl ?_
 refine yA rfl rfl ?_
 refine yN ?_
 dsimp only [St.put]
 refine K2 _ ?_
 refine yS fun _ K3 => ?_
 refine yS fun _ K4 => ?_
 refine yR ?_
 refine yM rfl rfl ?_
 refine aa rfl (br (c := true) (cz rfl rfl rfl) (lf he0)) ?_
 refine yN ?_
 dsimp only [St.put]
 refine K4 _ ?_
 refine ak rfl (fun _ => ?_) (fun h => by cases h)
 refine yS fun _ K5 => ?_
 refine yR ?_
 refine yM rfl rfl ?_
 refine yA rfl rfl ?_
 refine yA rfl rfl ?_
 refine yN ?_
 dsimp only [St.put]
 refine K5 _ ?_
 refine aj ?_
 refine dj rfl (ci (by constructor)) (ci (by constructor)) zN zS ?_ ?_
 ·exact zW
 exact zW
theorem upl (t : af) (e : aw) (r : dd) (hl : e.ss.length ≤ 20) :
  c8 cr Tryz.prog 11 [b7 t, val e, val r] (.tup [lst (kz t e r), .v (.int .i64 (jy t e r))]) := by
 by_cases h : cb t e = 0
 ·cases hr : gt r with
  | true => exact upm t e r hl h hr
  | false =>
   have hE : jy t e r = 2 := by simp [jy, h, hr]
   have hV : kz t e r = [] := by simp [kz, hE]
   rw [hV, hE]
   exact ue2 t e r 2 (by decide) (ubq t e r hl h hr)
 have hE : jy t e r = cb t e := by simp [jy, h]
 have hV : kz t e r = [] := by simp [kz, hE, h]
 rw [hV, hE]
 exact ue2 t e r _ h (xk t r [e] _ h (rq t e hl h))
end Go.Proofs.YtjjklfgpffgnfabGreatDoor
