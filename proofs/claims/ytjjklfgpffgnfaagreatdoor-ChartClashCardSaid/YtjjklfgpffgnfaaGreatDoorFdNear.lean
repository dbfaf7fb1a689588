/-
 Contracts of the program's functions of charts: the nearest places of a place.
-/
import Derived.Test.YtjjklfgpffgnfaaGreatDoorFcNear
namespace Go.AB
open Go Go.RowKit
open Go.AB.Enc (cells)
open Go.PB (bv ai PlaceD cy c6 cz)
theorem x7 (t : ai) (f : L2 → Option L2) : (fw t f).Pairwise fun a b => ltW (ig a) (ig b) := by
 unfold fw jg
 rw [List.pairwise_flatten]
 constructor
 ·intro l hl
  obtain ⟨p, _, rfl⟩ := List.mem_map.1 hl
  unfold kj
  cases (f p).isSome
  ·exact List.Pairwise.nil
  rw [cond_true]
  unfold iu
  rw [List.pairwise_map]
  refine List.Pairwise.imp (fun {a b} h => ?_) List.pairwise_lt_range
  simp only [ig, ltW]
  refine .inr ⟨trivial, .inr ⟨trivial, .inl ?_⟩⟩
  omega
 rw [List.pairwise_map]
 refine List.Pairwise.imp (fun {p q} h => ?_) (uhm t)
 intro a ha b hb
 unfold kj at ha hb
 cases hp : (f p).isSome with
 | false => rw [hp] at ha; simp at ha
 | true =>
  cases hq : (f q).isSome with
  | false => rw [hq] at hb; simp at hb
  | true =>
   rw [hp, cond_true] at ha
   rw [hq, cond_true] at hb
   obtain ⟨i, _, rfl⟩ := List.mem_map.1 ha
   obtain ⟨j, _, rfl⟩ := List.mem_map.1 hb
   simp only [ig, ltW]
   rcases h with h | ⟨h1, h2⟩
   ·exact .inl h
   exact .inr ⟨h1, .inl h2⟩
theorem uh5 (S : List PlaceD) : pj S ig 3 := ⟨fun _ _ => rfl, fun _ _ _ _ h => ua3 h⟩
theorem ucb {l : List PlaceD} {key : PlaceD → List Int} {x : List Int} {n : Nat} (hn : x.length = n) (hlen : ∀ y ∈ l, (key y).length = n) (hs : l.Pairwise fun a b => ltW (key a) (key b)) (hne : ∀ y ∈ l, key y ≠ x) :
  NearOk l key x (k8 l (ii l fun p => fp (key p) x)) := by
 refine ul0 hn hlen hs hne (ucc _ _) (fun y hy hl => ?_) (fun y hy => ?_)
 ·obtain ⟨j, hj⟩ := List.getElem?_of_mem hy
  rw [List.getElem?_take] at hj
  split at hj
  ·rename_i hlt
   obtain ⟨j1, j2⟩ := List.getElem?_eq_some_iff.1 hj
   have := List.not_of_lt_findIdx (p := fun p => decide (0 < fp (key p) x)) (xs := l) hlt
   rw [j2] at this
   exact of_decide_eq_false this ((xd ((hlen y (List.mem_of_getElem? hj)).trans hn.symm)).2 hl)
  cases hj
 obtain ⟨j1, j2⟩ := List.getElem?_eq_some_iff.1 hy
 have := List.findIdx_getElem (p := fun p => decide (0 < fp (key p) x)) (xs := l) (w := j1)
 have h3 : l[l.findIdx fun p => decide (0 < fp (key p) x)] = y := j2
 rw [h3] at this
 exact (xd ((hlen y (List.mem_of_getElem? hy)).trans hn.symm)).1 (of_decide_eq_true this)
noncomputable def m7 (t : ai) (ss : List StretchD) (p : PlaceD) : List PlaceD := bif (ax ss (p.ch, p.ln)).isSome then [p] else su (fw t (ax ss)) ig (ig p)
noncomputable def jm (t : ai) (e : av) (p : PlaceD) : Int := bif decide (bz t e = 0) then (bif gp t p then (bif decide (m7 t e.ss p = []) then 6 else 0) else 12) else bz t e
noncomputable def ki (t : ai) (e : av) (p : PlaceD) : List PlaceD := bif decide (jm t e p = 0) then m7 t e.ss p else []
theorem ugr {t : ai} {ss : List StretchD} {p : PlaceD} (hno : ax ss (p.ch, p.ln) = none) : ∀ y ∈ fw t (ax ss), ig y ≠ ig p := fun y hy e => by
 have := (mem_words.1 hy).2
 rw [ua3 e, hno] at this
 cases this
theorem zz {t : ai} {ss : List StretchD} {p : PlaceD} (hno : ax ss (p.ch, p.ln) = none) : k8 (fw t (ax ss)) (ii (fw t (ax ss)) fun q => fp (ig q) (ig p)) = m7 t ss p := by
 unfold m7
 rw [hno]
 exact (z6 (uh5 _) (ucb rfl (fun _ _ => rfl) (x7 t _) (ugr hno))).symm
end Go.AB
namespace Go.Proofs.YtjjklfgpffgnfaaGreatDoor
set_option maxRecDepth 10000
open Go.RowKit Go.AB
open Go.AB.Enc (cells)
open Go.PB (bv ai PlaceD cy c6 cz)
theorem ugt (p q : PlaceD) : c8 Tryz.prog 75 [val q, .elem (cells p)] (.v (.int .i64 (fp (ig q) (ig p)))) := by
 refine dr Tryz.func75 rfl (fun m => .v) fun G nx => ?_
 simp only [Tryz.ntmps75, List.length_cons, List.length_nil, Nat.reduceAdd, Nat.reduceSub]
 refine bi fun hlt => ?_
 dsimp only at hlt
 refine yS fun _ K1 => ?_
 refine yR ?_
 try dsimp only [St.put]
 refine yB rfl rfl rfl ?_
 refine yA rfl rfl ?_
 refine yN ?_
 dsimp only [St.put]
 refine K1 _ ?_
 refine yS fun _ K2 => ?_
 refine yR ?_
 refine yF rfl rfl rfl rfl ?_
 refine yL rfl rfl rfl ?_
 refine yF rfl rfl rfl rfl ?_
 refine yL rfl rfl rfl ?_
 refine yF rfl rfl rfl rfl ?_
 refine yL rfl rfl rfl ?_
 refine aa rfl (ir rfl rfl) ?_
 try dsimp only [St.put]
 refine ae rfl (bp rfl ?_)
 try dsimp only [St.put]
 refine ae rfl (ay rfl rfl rfl zG rfl rfl (by rfl) ?_)
 refine yN ?_
 dsimp only [St.put]
 refine K2 _ ?_
 refine dg (i := 4) rfl zG (by first | exact List.cons_ne_nil _ _ | (simp; done) | (simp [putAt]; done)) ?_
 dsimp only
 refine yS fun _ K3 => ?_
 refine gj [(0, none), (1, none), (2, none), (3, none)] (fun i => [2].contains i) (fun i => [2].contains i) (fun i => [0, 1, 3].contains i) [] (by kernel_rfl) (by kernel_rfl) ?_
 (refine ah rfl rfl rfl rfl (px (sz := 1) (m := 3) (e := 3) (rows := (ig q).map cells) rfl rfl rfl rfl (fun r hr => by obtain ⟨y, _, rfl⟩ := List.mem_map.1 hr; rfl) (by decide) (by decide)) ?_)
 (refine ah rfl rfl rfl rfl (px (sz := 1) (m := 3) (e := 3) (rows := (ig p).map cells) rfl rfl rfl rfl (fun r hr => by obtain ⟨y, _, rfl⟩ := List.mem_map.1 hr; rfl) (by decide) (by decide)) ?_)
 refine il ?_
 try dsimp only [St.put]
 refine gn rfl rfl rfl rfl (bd rfl rfl rfl (xc (ig q) (ig p) (by show 3 ≤ 1000; decide) (by show 3 ≤ 1000; decide)) ?_)
 refine jk rfl rfl rfl rfl (cg rfl (by constructor)) ?_
 refine ij ?_
 dsimp only [St.put]
 refine K3 _ ?_
 refine am ?_
 refine bf rfl (by constructor) zN zS ?_
 rfl
theorem ule (t : ai) (e : av) (p : PlaceD) (hl : e.ss.length ≤ 20) (h : bz t e = 0) (hp : gp t p = true) :
  da cv Tryz.prog 37 [b8 t, val e, val p] (.tup [lst (ki t e p), .v (.int .i64 (jm t e p))]) := by
 refine fy Tryz.func37 rfl (fun m => .tup (ar (bh _ _) (ar .v bl))) fun G nx hF => ?_
 simp only [Tryz.ntmps37, List.length_cons, List.length_nil, Nat.reduceAdd, Nat.reduceSub]
 refine bi fun hlt => ?_
 dsimp only at hlt
 have hnx := hlt 0 _ hF
 have hS := mn h
 obtain ⟨l, hw, hw1, hw2⟩ := placeB_true.1 hp
 have hwl := od hS.tx hw
 have hWl := uf hS.tx (ax e.ss) (d9 t)
 have hLl := ov hS.tx
 refine yS fun _ K1 => ?_
 refine yR ?_
 try dsimp only [St.put]
 refine yB rfl rfl rfl ?_
 try dsimp only [St.put]
 refine yB rfl rfl rfl ?_
 try dsimp only [St.put]
 refine yB rfl rfl rfl ?_
 refine yA rfl rfl ?_
 refine yA rfl rfl ?_
 refine yN ?_
 dsimp only [St.put]
 refine K1 _ ?_
 refine yS fun _ K2 => ?_
 refine yR ?_
 try dsimp only [St.put]
 refine af rfl (aq rfl rfl rfl) ?_
 refine yE rfl rfl rfl ?_
 refine yE rfl rfl rfl ?_
 try dsimp only [St.put]
 refine ae rfl (i0 rfl rfl rfl (ucn t e p hl h hp _ _ zG) (fun y => ?_))
 refine yM rfl rfl ?_
 refine yX rfl rfl rfl rfl ?_
 refine yX rfl rfl rfl rfl ?_
 refine yA rfl rfl ?_
 refine yA rfl rfl ?_
 refine yN ?_
 dsimp only [St.put]
 refine K2 _ ?_
 refine yS fun _ K3 => ?_
 refine yS fun _ K4 => ?_
 refine yR ?_
 refine yM rfl rfl ?_
 refine aa rfl (bt (c := false) (dt rfl rfl rfl) (by rfl)) ?_
 refine yN ?_
 dsimp only [St.put]
 refine K4 _ ?_
 refine al rfl (fun h => by cases h) (fun _ => ?_)
 refine aw ?_
 refine K3 _ ?_
 refine yS fun _ K5 => ?_
 refine yS fun _ K6 => ?_
 refine yR ?_
 refine yM rfl rfl ?_
 refine yE rfl rfl rfl ?_
 try dsimp only [St.put]
 refine ae rfl (f8 rfl rfl rfl (pd t e _ _ _ (ax e.ss) p (by omega) _ _ (by dsimp only [St.put]; omega) (by dsimp only [St.put]; omega) zG) ?_)
 refine yM rfl rfl ?_
 refine yX rfl rfl rfl rfl ?_
 refine yX rfl rfl rfl rfl ?_
 try dsimp only [St.put]
 refine ae rfl (bp rfl ?_)
 try dsimp only [St.put]
 refine ae rfl (ay rfl rfl rfl zG rfl rfl (by rfl) ?_)
 refine yA rfl rfl ?_
 refine yN ?_
 dsimp only [St.put]
 refine K6 _ ?_
 refine yS fun _ K7 => ?_
 refine yR ?_
 refine yM rfl rfl ?_
 refine yN ?_
 dsimp only [St.put]
 refine K7 _ ?_
 refine al rfl (fun hc => ?_) (fun hc => ?_)
 ·have hf : (ax e.ss (p.ch, p.ln)).isSome = true := by simpa using hc
  have hL : m7 t e.ss p = [p] := by simp [m7, hf]
  have hE : jm t e p = 0 := by simp [jm, h, hp, hL]
  have hV : ki t e p = [p] := by simp [ki, hE, hL]
  refine yS fun _ K8 => ?_
  refine yR ?_
  refine yE rfl rfl rfl ?_
  try dsimp only [St.put]
  refine ae rfl (c9 rfl rfl rfl (by decide) (by decide) zR (by decide) ?_)
  refine yA rfl rfl ?_
  refine yA rfl rfl ?_
  refine yN ?_
  dsimp only [St.put]
  refine K8 _ ?_
  refine am ?_
  refine dv rfl (cj (by constructor)) (cj (by constructor)) zN zS ?_ ?_
  ·rw [hV]
   exact zW
  exact Wk.of_eq (vi hE.symm)
 have hf : ax e.ss (p.ch, p.ln) = none := by simpa using hc
 have hL := zz (t := t) hf
 refine aw ?_
 refine K5 _ ?_
 refine yS fun _ K9 => ?_
 refine yR ?_
 refine yF rfl rfl rfl rfl ?_
 refine yL rfl rfl rfl ?_
 refine yF rfl rfl rfl rfl ?_
 refine yL rfl rfl rfl ?_
 refine yF rfl rfl rfl rfl ?_
 refine yL rfl rfl rfl ?_
 refine aa rfl (ir rfl rfl) ?_
 try dsimp only [St.put]
 refine ae rfl (bp rfl ?_)
 try dsimp only [St.put]
 refine ae rfl (ay rfl rfl rfl zG rfl rfl (by rfl) ?_)
 refine yN ?_
 dsimp only [St.put]
 refine K9 _ ?_
 refine dg (i := 12) rfl zG (by first | exact List.cons_ne_nil _ _ | (simp; done) | (simp [putAt]; done)) ?_
 dsimp only
 refine yS fun _ K10 => ?_
 refine yR ?_
 refine yM rfl rfl ?_
 try dsimp only [St.put]
 refine ae rfl (f8 rfl rfl rfl (udr t e (ax e.ss) _ _ _ hS.tx _ _ (by dsimp only [St.put]; omega) (by dsimp only [St.put]; omega) zG) ?_)
 refine aa rfl (m8 rfl rfl) ?_
 try dsimp only [St.put]
 refine ae rfl (f8 rfl rfl rfl (ucz (fw t (ax e.ss)) (fun q => fp (ig q) (ig p)) 75 [.elem (cells p)] _ _ (by unfold fw; omega) (ar (e9 _ _) bl) (by simp [C.one]) fun q _ => ugt p q _ _) ?_)
 refine yX rfl rfl rfl rfl ?_
 refine yX rfl rfl rfl rfl ?_
 refine yA rfl rfl ?_
 refine yA rfl rfl ?_
 refine yN ?_
 dsimp only [St.put]
 rw [hL]
 have hE : jm t e p = pf (fw t (ax e.ss)) (ii (fw t (ax e.ss)) fun q => fp (ig q) (ig p)) := by simp [jm, h, hp, pf, hL]
 have hV : ki t e p = m7 t e.ss p := by
  by_cases h0 : m7 t e.ss p = []
  ·simp [ki, h0]
  have : jm t e p = 0 := by simp [jm, h, hp, h0]
  simp [ki, this]
 refine K10 _ ?_
 refine am ?_
 refine je rfl (by constructor) (by constructor) zN zS ?_ ?_
 ·rw [hV]
  rfl
 exact vi hE.symm
theorem ucq (t : ai) (e : av) (p : PlaceD) (er : Int) (he0 : er ≠ 0) (hcall : da cv Tryz.prog 45 [b8 t, val e, val p] (.tup [.v (.pointer none), .v (.int .i64 er)])) :
  da cv Tryz.prog 37 [b8 t, val e, val p] (.tup [lst ([] : List PlaceD), .v (.int .i64 er)]) := by
 refine fy Tryz.func37 rfl (fun m => .tup (ar (bh _ _) (ar .v bl))) fun G nx hF => ?_
 simp only [Tryz.ntmps37, List.length_cons, List.length_nil, Nat.reduceAdd, Nat.reduceSub]
 refine bi fun hlt => ?_
 dsimp only at hlt
 have hnx := hlt 0 _ hF
 refine yS fun _ K1 => ?_
 refine yR ?_
 try dsimp only [St.put]
 refine yB rfl rfl rfl ?_
 try dsimp only [St.put]
 refine yB rfl rfl rfl ?_
 try dsimp only [St.put]
 refine yB rfl rfl rfl ?_
 refine yA rfl rfl ?_
 refine yA rfl rfl ?_
 refine yN ?_
 dsimp only [St.put]
 refine K1 _ ?_
 refine yS fun _ K2 => ?_
 refine yR ?_
 try dsimp only [St.put]
 refine af rfl (aq rfl rfl rfl) ?_
 refine yE rfl rfl rfl ?_
 refine yE rfl rfl rfl ?_
 try dsimp only [St.put]
 refine ae rfl (eb rfl rfl rfl (hcall) zG ?_)
 refine yM rfl rfl ?_
 refine yX rfl rfl rfl rfl ?_
 refine yX rfl rfl rfl rfl ?_
 refine yA rfl rfl ?_
 refine yA rfl rfl ?_
 refine yN ?_
 dsimp only [St.put]
 refine K2 _ ?_
 refine yS fun _ K3 => ?_
 refine yS fun _ K4 => ?_
 refine yR ?_
 refine yM rfl rfl ?_
 refine aa rfl (bt (c := true) (dt rfl rfl rfl) (kh he0)) ?_
 refine yN ?_
 dsimp only [St.put]
 refine K4 _ ?_
 refine al rfl (fun _ => ?_) (fun h => by cases h)
 refine yS fun _ K5 => ?_
 refine yR ?_
 refine yM rfl rfl ?_
 refine yA rfl rfl ?_
 refine yA rfl rfl ?_
 refine yN ?_
 dsimp only [St.put]
 refine K5 _ ?_
 refine am ?_
 refine dv rfl (cj (by constructor)) (cj (by constructor)) zN zS ?_ ?_
 ·exact zW
 exact zW
theorem uld (t : ai) (e : av) (p : PlaceD) (hl : e.ss.length ≤ 20) :
  da cv Tryz.prog 37 [b8 t, val e, val p] (.tup [lst (ki t e p), .v (.int .i64 (jm t e p))]) := by
 by_cases h : bz t e = 0
 ·cases hp : gp t p with
  | true => exact ule t e p hl h hp
  | false =>
   have hE : jm t e p = 12 := by simp [jm, h, hp]
   have hV : ki t e p = [] := by simp [ki, hE]
   rw [hV, hE]
   exact ucq t e p 12 (by decide) (uco t e p hl h hp)
 have hE : jm t e p = bz t e := by simp [jm, h]
 have hV : ki t e p = [] := by simp [ki, hE, h]
 rw [hV, hE]
 exact ucq t e p _ h (ucp t e p hl h)
end Go.Proofs.YtjjklfgpffgnfaaGreatDoor
