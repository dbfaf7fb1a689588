/-
 Contracts of the program's functions of charts: the nearest places of a place.
-/
import Derived.Test.YtjjklfgpffgnfabGreatDoorFcNear
namespace Go.AB
open Go Go.RowKit
open Go.AB.Enc (cells)
open Go.PB (bh af PlaceD ar bp cj)
theorem zx (t : af) (f : L2 → Option L2) : (fh t f).Pairwise fun a b => ltW (ig a) (ig b) := by
 unfold fh jm
 rw [List.pairwise_flatten]
 constructor
 ·intro l hl
  obtain ⟨p, _, rfl⟩ := List.mem_map.1 hl
  unfold kx
  cases (f p).isSome
  ·exact List.Pairwise.nil
  rw [cond_true]
  unfold ir
  rw [List.pairwise_map]
  refine List.Pairwise.imp (fun {a b} h => ?_) List.pairwise_lt_range
  simp only [ig, ltW]
  refine .inr ⟨trivial, .inr ⟨trivial, .inl ?_⟩⟩
  omega
 rw [List.pairwise_map]
 refine List.Pairwise.imp (fun {p q} h => ?_) (ula t)
 intro a ha b hb
 unfold kx at ha hb
 cases hp : (f p).isSome with
 | false => rw [hp] at ha; simp at ha
 | true =>
  cases hq : (f q).isSome with
  | false => rw [hq] at hb; simp at hb
  | true =>
   rw [hp, cond_true] at ha
   rw [hq, cond_true] at hb
   obtain ⟨i, _, rfl⟩ := List.mem_map.1 ha
   obtain ⟨j, _, rfl⟩ := List.mem_map.1 hb
   simp only [ig, ltW]
   rcases h with h | ⟨h1, h2⟩
   ·exact .inl h
   exact .inr ⟨h1, .inl h2⟩
theorem ul5 (S : List PlaceD) : p6 S ig 3 := ⟨fun _ _ => rfl, fun _ _ _ _ h => uc1 h⟩
theorem uef {l : List PlaceD} {key : PlaceD → List Int} {x : List Int} {n : Nat} (hn : x.length = n) (hlen : ∀ y ∈ l, (key y).length = n) (hs : l.Pairwise fun a b => ltW (key a) (key b)) (hne : ∀ y ∈ l, key y ≠ x) :
  NearOk l key x (lj l (ii l fun p => fb (key p) x)) := by
 refine up0 hn hlen hs hne (ueg _ _) (fun y hy hl => ?_) (fun y hy => ?_)
 ·obtain ⟨j, hj⟩ := List.getElem?_of_mem hy
  rw [List.getElem?_take] at hj
  split at hj
  ·rename_i hlt
   obtain ⟨j1, j2⟩ := List.getElem?_eq_some_iff.1 hj
   have := List.not_of_lt_findIdx (p := fun p => decide (0 < fb (key p) x)) (xs := l) hlt
   rw [j2] at this
   exact of_decide_eq_false this ((y4 ((hlen y (List.mem_of_getElem? hj)).trans hn.symm)).2 hl)
  cases hj
 obtain ⟨j1, j2⟩ := List.getElem?_eq_some_iff.1 hy
 have := List.findIdx_getElem (p := fun p => decide (0 < fb (key p) x)) (xs := l) (w := j1)
 have h3 : l[l.findIdx fun p => decide (0 < fb (key p) x)] = y := j2
 rw [h3] at this
 exact (y4 ((hlen y (List.mem_of_getElem? hy)).trans hn.symm)).1 (of_decide_eq_true this)
noncomputable def nf (t : af) (ss : List StretchD) (p : PlaceD) : List PlaceD := bif (av ss (p.ch, p.ln)).isSome then [p] else ud (fh t (av ss)) ig (ig p)
noncomputable def jr (t : af) (e : aw) (p : PlaceD) : Int := bif decide (cb t e = 0) then (bif fe t p then (bif decide (nf t e.ss p = []) then 6 else 0) else 12) else cb t e
noncomputable def ku (t : af) (e : aw) (p : PlaceD) : List PlaceD := bif decide (jr t e p = 0) then nf t e.ss p else []
theorem uj9 {t : af} {ss : List StretchD} {p : PlaceD} (hno : av ss (p.ch, p.ln) = none) : ∀ y ∈ fh t (av ss), ig y ≠ ig p := fun y hy e => by
 have := (mem_words.1 hy).2
 rw [uc1 e, hno] at this
 cases this
theorem ubv {t : af} {ss : List StretchD} {p : PlaceD} (hno : av ss (p.ch, p.ln) = none) : lj (fh t (av ss)) (ii (fh t (av ss)) fun q => fb (ig q) (ig p)) = nf t ss p := by
 unfold nf
 rw [hno]
 exact (ubw (ul5 _) (uef rfl (fun _ _ => rfl) (zx t _) (uj9 hno))).symm
end Go.AB
namespace Go.Proofs.YtjjklfgpffgnfabGreatDoor
set_option maxRecDepth 10000
open Go.RowKit Go.AB
open Go.AB.Enc (cells)
open Go.PB (bh af PlaceD ar bp cj)
theorem ukb (p q : PlaceD) : ce Tryz.prog 61 [val q, .elem (cells p)] (.v (.int .i64 (fb (ig q) (ig p)))) := by
 refine cv Tryz.func61 rfl (fun m => .v) fun G nx => ?_
 simp only [Tryz.ntmps61, List.length_cons, List.length_nil, Nat.reduceAdd, Nat.reduceSub]
 refine bf fun hlt => ?_
 dsimp only at hlt
 refine yS fun _ K1 => ?_
 refine yR ?_
 try dsimp only [St.put]
 refine yB rfl rfl rfl ?_
 refine yA rfl rfl ?_
 refine yN ?_
 dsimp only [St.put]
 refine K1 _ ?_
 refine yS fun _ K2 => ?_
 refine yR ?_
 refine yF rfl rfl rfl rfl ?_
 refine yL rfl rfl rfl ?_
 refine yF rfl rfl rfl rfl ?_
 refine yL rfl rfl rfl ?_
 refine yF rfl rfl rfl rfl ?_
 refine yL rfl rfl rfl ?_
 refine aa rfl (i3 rfl rfl) ?_
 try dsimp only [St.put]
 refine ae rfl (bj rfl ?_)
 try dsimp only [St.put]
 refine ae rfl (ax rfl rfl rfl zG rfl rfl (by rfl) ?_)
 refine yN ?_
 dsimp only [St.put]
 refine K2 _ ?_
 refine cw (i := 4) rfl zG (by first | exact List.cons_ne_nil _ _ | (simp; done) | (simp [putAt]; done)) ?_
 dsimp only
 refine yS fun _ K3 => ?_
 refine gh [(0, none), (1, none), (2, none), (3, none)] (fun i => [2].contains i) (fun i => [2].contains i) (fun i => [0, 1, 3].contains i) [] (by kernel_rfl) (by kernel_rfl) ?_
 (refine ai rfl rfl rfl rfl (qj (sz := 1) (m := 3) (e := 3) (rows := (ig q).map cells) rfl rfl rfl rfl (fun r hr => by obtain ⟨y, _, rfl⟩ := List.mem_map.1 hr; rfl) (by decide) (by decide)) ?_)
 (refine ai rfl rfl rfl rfl (qj (sz := 1) (m := 3) (e := 3) (rows := (ig p).map cells) rfl rfl rfl rfl (fun r hr => by obtain ⟨y, _, rfl⟩ := List.mem_map.1 hr; rfl) (by decide) (by decide)) ?_)
 refine il ?_
 try dsimp only [St.put]
 refine gl rfl rfl rfl rfl (a7 rfl rfl rfl (yz (ig q) (ig p) (by show 3 ≤ 1000; decide) (by show 3 ≤ 1000; decide)) ?_)
 refine jl rfl rfl rfl rfl (eh rfl (by constructor)) ?_
 refine ij ?_
 dsimp only [St.put]
 refine K3 _ ?_
 refine aj ?_
 refine ay rfl (by constructor) zN zS ?_
 rfl
theorem upd (t : af) (e : aw) (p : PlaceD) (hl : e.ss.length ≤ 20) (h : cb t e = 0) (hp : fe t p = true) :
  c8 cr Tryz.prog 25 [b7 t, val e, val p] (.tup [lst (ku t e p), .v (.int .i64 (jr t e p))]) := by
 refine fw Tryz.func25 rfl (fun m => .tup (am (bd _ _) (am .v bn))) fun G nx hF => ?_
 simp only [Tryz.ntmps25, List.length_cons, List.length_nil, Nat.reduceAdd, Nat.reduceSub]
 refine bf fun hlt => ?_
 dsimp only at hlt
 have hnx := hlt 0 _ hF
 have hS := mu h
 obtain ⟨l, hw, hw1, hw2⟩ := placeB_true.1 hp
 have hwl := m6 hS.tx hw
 have hWl := vy hS.tx (av e.ss) (dn t)
 have hLl := pf hS.tx
 refine yS fun _ K1 => ?_
 refine yR ?_
 try dsimp only [St.put]
 refine yB rfl rfl rfl ?_
 try dsimp only [St.put]
 refine yB rfl rfl rfl ?_
 try dsimp only [St.put]
 refine yB rfl rfl rfl ?_
 refine yA rfl rfl ?_
 refine yA rfl rfl ?_
 refine yN ?_
 dsimp only [St.put]
 refine K1 _ ?_
 refine yS fun _ K2 => ?_
 refine yR ?_
 try dsimp only [St.put]
 refine ba rfl (bk rfl rfl rfl) ?_
 refine yE rfl rfl rfl ?_
 refine yE rfl rfl rfl ?_
 try dsimp only [St.put]
 refine ae rfl (iy rfl rfl rfl (uex t e p hl h hp _ _ zG) (fun y => ?_))
 refine yM rfl rfl ?_
 refine yX rfl rfl rfl rfl ?_
 refine yX rfl rfl rfl rfl ?_
 refine yA rfl rfl ?_
 refine yA rfl rfl ?_
 refine yN ?_
 dsimp only [St.put]
 refine K2 _ ?_
 refine yS fun _ K3 => ?_
 refine yS fun _ K4 => ?_
 refine yR ?_
 refine yM rfl rfl ?_
 refine aa rfl (br (c := false) (cz rfl rfl rfl) (by rfl)) ?_
 refine yN ?_
 dsimp only [St.put]
 refine K4 _ ?_
 refine ak rfl (fun h => by cases h) (fun _ => ?_)
 refine aq ?_
 refine K3 _ ?_
 refine yS fun _ K5 => ?_
 refine yS fun _ K6 => ?_
 refine yR ?_
 refine yM rfl rfl ?_
 refine yE rfl rfl rfl ?_
 try dsimp only [St.put]
 refine ae rfl (fg rfl rfl rfl (pv t e _ _ _ (av e.ss) p (by omega) _ _ (by dsimp only [St.put]; omega) (by dsimp only [St.put]; omega) zG) ?_)
 refine yM rfl rfl ?_
 refine yX rfl rfl rfl rfl ?_
 refine yX rfl rfl rfl rfl ?_
 try dsimp only [St.put]
 refine ae rfl (bj rfl ?_)
 try dsimp only [St.put]
 refine ae rfl (ax rfl rfl rfl zG rfl rfl (by rfl) ?_)
 refine yA rfl rfl ?_
 refine yN ?_
 dsimp only [St.put]
 refine K6 _ ?_
 refine yS fun _ K7 => ?_
 refine yR ?_
 refine yM rfl rfl ?_
 refine yN ?_
 dsimp only [St.put]
 refine K7 _ ?_
 refine ak rfl (fun hc => ?_) (fun hc => ?_)
 ·have hf : (av e.ss (p.ch, p.ln)).isSome = true := by simpa using hc
  have hL : nf t e.ss p = [p] := by simp [nf, hf]
  have hE : jr t e p = 0 := by simp [jr, h, hp, hL]
  have hV : ku t e p = [p] := by simp [ku, hE, hL]
  refine yS fun _ K8 => ?_
  refine yR ?_
  refine yE rfl rfl rfl ?_
  try dsimp only [St.put]
  refine ae rfl (cq rfl rfl rfl (by decide) (by decide) zR (by decide) ?_)
  refine yA rfl rfl ?_
  refine yA rfl rfl ?_
  refine yN ?_
  dsimp only [St.put]
  refine K8 _ ?_
  refine aj ?_
  refine dj rfl (ci (by constructor)) (ci (by constructor)) zN zS ?_ ?_
  ·rw [hV]
   exact zW
  exact Wk.of_eq (vi hE.symm)
 have hf : av e.ss (p.ch, p.ln) = none := by simpa using hc
 have hL := ubv (t := t) hf
 refine aq ?_
 refine K5 _ ?_
 refine yS fun _ K9 => ?_
 refine yR ?_
 refine yF rfl rfl rfl rfl ?_
 refine yL rfl rfl rfl ?_
 refine yF rfl rfl rfl rfl ?_
 refine yL rfl rfl rfl ?_
 refine yF rfl rfl rfl rfl ?_
 refine yL rfl rfl rfl ?_
 refine aa rfl (i3 rfl rfl) ?_
 try dsimp only [St.put]
 refine ae rfl (bj rfl ?_)
 try dsimp only [St.put]
 refine ae rfl (ax rfl rfl rfl zG rfl rfl (by rfl) ?_)
 refine yN ?_
 dsimp only [St.put]
 refine K9 _ ?_
 refine cw (i := 12) rfl zG (by first | exact List.cons_ne_nil _ _ | (simp; done) | (simp [putAt]; done)) ?_
 dsimp only
 refine yS fun _ K10 => ?_
 refine yR ?_
 refine yM rfl rfl ?_
 try dsimp only [St.put]
 refine ae rfl (fg rfl rfl rfl (uf6 t e (av e.ss) _ _ _ hS.tx _ _ (by dsimp only [St.put]; omega) (by dsimp only [St.put]; omega) zG) ?_)
 refine aa rfl (ng rfl rfl) ?_
 try dsimp only [St.put]
 refine ae rfl (fg rfl rfl rfl (ufd (fh t (av e.ss)) (fun q => fb (ig q) (ig p)) 61 [.elem (cells p)] _ _ (by unfold fh; omega) (am (ed _ _) bn) (by simp [C.one]) fun q _ => ukb p q _ _) ?_)
 refine yX rfl rfl rfl rfl ?_
 refine yX rfl rfl rfl rfl ?_
 refine yA rfl rfl ?_
 refine yA rfl rfl ?_
 refine yN ?_
 dsimp only [St.put]
 rw [hL]
 have hE : jr t e p = px (fh t (av e.ss)) (ii (fh t (av e.ss)) fun q => fb (ig q) (ig p)) := by simp [jr, h, hp, px, hL]
 have hV : ku t e p = nf t e.ss p := by
  by_cases h0 : nf t e.ss p = []
  ·simp [ku, h0]
  have : jr t e p = 0 := by simp [jr, h, hp, h0]
  simp [ku, this]
 refine K10 _ ?_
 refine aj ?_
 refine ix rfl (by constructor) (by constructor) zN zS ?_ ?_
 ·rw [hV]
  rfl
 exact vi hE.symm
theorem ue0 (t : af) (e : aw) (p : PlaceD) (er : Int) (he0 : er ≠ 0) (hcall : c8 cr Tryz.prog 57 [b7 t, val e, val p] (.tup [.v (.pointer none), .v (.int .i64 er)])) :
  c8 cr Tryz.prog 25 [b7 t, val e, val p] (.tup [lst ([] : List PlaceD), .v (.int .i64 er)]) := by
 refine fw Tryz.func25 rfl (fun m => .tup (am (bd _ _) (am .v bn))) fun G nx hF => ?_
 simp only [Tryz.ntmps25, List.length_cons, List.length_nil, Nat.reduceAdd, Nat.reduceSub]
 refine bf fun hlt => ?_
 dsimp only at hlt
 have hnx := hlt 0 _ hF
 refine yS fun _ K1 => ?_
 refine yR ?_
 try dsimp only [St.put]
 refine yB rfl rfl rfl ?_
 try dsimp only [St.put]
 refine yB rfl rfl rfl ?_
 try dsimp only [St.put]
 refine yB rfl rfl rfl ?_
 refine yA rfl rfl ?_
 refine yA rfl rfl ?_
 refine yN ?_
 dsimp only [St.put]
 refine K1 _ ?_
 refine yS fun _ K2 => ?_
 refine yR ?_
 try dsimp only [St.put]
 refine ba rfl (bk rfl rfl rfl) ?_
 refine yE rfl rfl rfl ?_
 refine yE rfl rfl rfl ?_
 try dsimp only [St.put]
 refine ae rfl (dq rfl rfl rfl (hcall) zG ?_)
 refine yM rfl rfl ?_
 refine yX rfl rfl rfl rfl ?_
 refine yX rfl rfl rfl rfl ?_
 refine yA rfl rfl ?_
 refine yA rfl rfl ?_
 refine yN ?_
 dsimp only [St.put]
 refine K2 _ ?_
 refine yS fun _ K3 => ?_
 refine yS fun _ K4 => ?_
 refine yR ?_
 refine yM rfl rfl ?_
 refine aa rfl (br (c := true) (cz rfl rfl rfl) (lf he0)) ?_
 refine yN ?_
 dsimp only [St.put]
 refine K4 _ ?_
 refine ak rfl (fun _ => ?_) (fun h => by cases h)
 refine yS fun _ K5 => ?_
 refine yR ?_
 refine yM rfl rfl ?_
 refine yA rfl rfl ?_
 refine yA rfl rfl ?_
 refine yN ?_
 dsimp only [St.put]
 refine K5 _ ?_
 refine aj ?_
 refine dj rfl (ci (by constructor)) (ci (by constructor)) zN zS ?_ ?_
 ·exact zW
 exact zW
theorem upc (t : af) (e : aw) (p : PlaceD) (hl : e.ss.length ≤ 20) :
  c8 cr Tryz.prog 25 [b7 t, val e, val p] (.tup [lst (ku t e p), .v (.int .i64 (jr t e p))]) := by
 by_cases h : cb t e = 0
 ·cases hp : fe t p with
  | true => exact upd t e p hl h hp
  | false =>
   have hE : jr t e p = 12 := by simp [jr, h, hp]
   have hV : ku t e p = [] := by simp [ku, hE]
   rw [hV, hE]
   exact ue0 t e p 12 (by decide) (uey t e p hl h hp)
 have hE : jr t e p = cb t e := by simp [jr, h]
 have hV : ku t e p = [] := by simp [ku, hE, h]
 rw [hV, hE]
 exact ue0 t e p _ h (uez t e p hl h)
end Go.Proofs.YtjjklfgpffgnfabGreatDoor
