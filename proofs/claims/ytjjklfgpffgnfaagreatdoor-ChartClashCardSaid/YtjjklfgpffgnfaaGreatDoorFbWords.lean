/-
 Contracts of the program's functions of charts: the words that are there; what is beside something.
-/
import Derived.Test.YtjjklfgpffgnfaaGreatDoorEdLead
import Derived.Test.YtjjklfgpffgnfaaGreatDoorFaNear
import Derived.Test.YtjjklfgpffgnfaaGreatDoorCyPlain
namespace Go.AB
open Go Go.RowKit
open Go.AB.Enc (cells)
open Go.PB (bv ai PlaceD cy c6 cz)
/-- What is owned is laid for good when the call ends. -/
theorem ugd {P : Program} {f : FuncId} {args : List C} {G : Nat → Option GObj} {nx m n ver wv len sz : Nat} {tt : TypeId} {α : Type} [Enc α] {xs : List α} (h : PC P f args G nx fun r G' nx' => r = .own n ver len ∧ G' = ak G n (.arr ver wv tt sz len (co xs)) ∧ nx' = m) (hn : nx ≤ n) (hsz : sz = Enc.n α) (hlen : len = xs.length)
  (hlow : ∀ m, (lst xs).low m) : PC P f args G nx fun r G' nx' => r = lst xs ∧ G' = G ∧ nx' = nx := by
 intro E w vs hr hg
 refine (h E w vs hr hg).mono ?_
 rintro e w' ⟨r', v, E', G', nx', e1, e2, e3, e4, rfl, rfl, rfl⟩
 obtain ⟨E2, hE, hg2, hl⟩ := u6 e4 xs (ns _ _ _) hsz rfl hlen
 have hnx := hg.nx
 refine ⟨lst xs, v, E2.drop nx, G, nx, e1, (e2.trans hE).drop (by omega), (hl v e3).drop (hlow nx), ?_, rfl, rfl, rfl⟩
 refine (hg2.weak fun k o ho => ?_).drop fun k o ho => hg.lowG ho
 have := (hg.lowG ho).1
 rw [k7 (by omega), io (by omega)]
 exact ho
theorem ujh {α : Type} {q : α → Bool} {l : List α} {k : Nat} {x : α} (hx : l[k]? = some x) (h : ∀ y ∈ l.take k, q y = false) (hq : q x = true) : l.findIdx q = k := by
 obtain ⟨h1, h2⟩ := List.getElem?_eq_some_iff.1 hx
 rw [List.findIdx_eq h1]
 exact ⟨by rw [h2]; exact hq, fun j hj => h _ (List.mem_of_getElem? (i := j) (by rw [List.getElem?_take_of_lt hj, List.getElem?_eq_getElem (by omega)]))⟩
theorem ujg {α : Type} {q : α → Bool} {l : List α} {k : Nat} (hk : l.length ≤ k) (h : ∀ y ∈ l.take k, q y = false) : ¬ l.findIdx q < l.length := by
 rw [List.take_of_length_le hk] at h
 rw [List.findIdx_lt_length]
 rintro ⟨x, hx, hq⟩
 rw [h x hx] at hq
 cases hq
end Go.AB
namespace Go.Proofs.YtjjklfgpffgnfaaGreatDoor
set_option maxRecDepth 10000
open Go.RowKit Go.AB
open Go.AB.Enc (cells)
open Go.PB (bv ai PlaceD cy c6 cz)
theorem x8 (t : ai) (e : av) (f : L2 → Option L2) (n m V : Nat) (ht : ct t = true) (G : Nat → Option GObj) (nx : Nat) (hn : n < nx) (hm : m < nx) (hG : G n = some (bo Tryz.prog 115 V (az f))) :
  PC Tryz.prog 56 [.elem (gi t e n m)] G nx fun r G' nx' => r = .own (nx + 1) (fw t f).length (fw t f).length ∧ G' = ak G (nx + 1) (.arr (fw t f).length 0 32 3 (fw t f).length (co (fw t f))) ∧ nx' = nx + 1 + 1 := by
 refine l8 (ak G (nx + 1) (.arr (fw t f).length 0 32 3 (fw t f).length (co (fw t f)))) (nx + 1 + 1) Tryz.func56 rfl (.own (show nx + 1 < nx + 1 + 1 by omega)) zN (fun hlt => zH) ?_
 simp only [Tryz.ntmps56, List.length_cons, List.length_nil, Nat.reduceAdd, Nat.reduceSub]
 refine bi fun hlt => ?_
 dsimp only at hlt
 refine yS fun _ K1 => ?_
 refine yR ?_
 try dsimp only [St.put]
 refine yB rfl rfl rfl ?_
 refine yA rfl rfl ?_
 refine yN ?_
 dsimp only [St.put]
 refine K1 _ ?_
 refine yS fun _ K2 => ?_
 refine yR ?_
 try dsimp only [St.put]
 refine ae rfl (bp rfl ?_)
 refine yN ?_
 dsimp only [St.put]
 refine K2 _ ?_
 refine ld nx 0 _ _ 32 3 zG rfl (by decide) ?_
 dsimp only [List.set_cons_zero, List.set_cons_succ]
 refine yS fun _ K3 => ?_
 refine yS fun _ K4 => ?_
 refine yR ?_
 refine yL rfl rfl rfl ?_
 try dsimp only [St.put]
 refine ae rfl (f8 rfl rfl rfl (vu t e _ _ _ _ (by dsimp only [St.put]; omega) (by dsimp only [St.put]; omega)) ?_)
 refine yN ?_
 dsimp only [St.put]
 refine K4 _ ?_
 refine bn ?_
 refine eg 11 ?_
 simp only [dj, bq, Nat.reduceAdd, List.getD_cons_zero, List.getD_cons_succ, List.getD_nil, dw, Nat.reduceBEq, cond_true, cond_false]
 refine fg ((ak (ak G nx (.box (([] : List PlaceD)).length [.own (nx + 1) (([] : List PlaceD)).length (([] : List PlaceD)).length])) (nx + 1) (.arr (([] : List PlaceD)).length 0 32 3 (([] : List PlaceD)).length (co (([] : List PlaceD)))))) zX ?_
 dsimp only
 refine xn (clL) [11, 12] (fun zs => (ak (ak G nx (.box ((jg t f (zs.map (·.1)))).length [.own (nx + 1) ((jg t f (zs.map (·.1)))).length ((jg t f (zs.map (·.1)))).length])) (nx + 1) (.arr ((jg t f (zs.map (·.1)))).length 0 32 3 ((jg t f (zs.map (·.1)))).length (co ((jg t f (zs.map (·.1)))))))) (fun _ _ (_ : Unit) => False) (fun _ => fun _ => none) (fun x => [(12, .v x.2), (11, .agg [.v (.int .i64 x.1.1), .v (.int .i64 x.1.2)])]) (vv t e n m) rfl rfl (fun _ => rfl) (fun xs hX => hX.cl) ?_ ?_ ?_ (fun _ _ _ h => h.elim) (fun xs hX lr pre x hx hlen hpre => ?_) (fun _ _ _ _ _ _ h => h.elim) (fun xs hX => ?_)
 ·intro pre x
  rfl
 ·exact zX
 ·intro zs
  exact zH
 ·have hlen' := ov ht
  rw [← hX.fst, List.length_map] at hlen'
  have hol := uf ht f (pre.map (·.1))
  rw [List.length_map] at hol
  obtain ⟨kk, nn, c, ws, ad, cap, hxe, hc, hl⟩ := hX.at' x hx
  have hw : fq t x.1 = some ws := by rw [hxe]; exact yb hc hl
  have hwl := od ht hw
  obtain ⟨p, v⟩ := x
  simp only [Prod.mk.injEq] at hxe
  obtain ⟨hp, rfl⟩ := hxe
  dsimp only at hw hwl ⊢
  obtain ⟨W, hW⟩ : ∃ W, jg t f (pre.map (·.1)) = W := ⟨_, rfl⟩
  rw [hW] at hol ⊢
  have hsnoc : jg t f ((pre ++ [(p, Value.slice ad ws.length cap)]).map (·.1)) = W ++ kj t f p := by rw [List.map_append, List.map_cons, List.map_nil, udt, hW]
  refine yS fun _ K5 => ?_
  refine yR ?_
  try dsimp only [St.put]
  refine ae rfl (bp rfl ?_)
  try dsimp only [St.put]
  refine ae rfl (ay rfl rfl rfl zG rfl rfl (by rfl) ?_)
  refine yN ?_
  dsimp only [St.put]
  refine K5 _ ?_
  refine dg (i := 4) rfl zG (by first | exact List.cons_ne_nil _ _ | (simp; done) | (simp [putAt]; done)) ?_
  dsimp only
  refine yR ?_
  refine yA rfl rfl ?_
  refine yN ?_
  dsimp only [St.put]
  show AW _ _ _ _ _
  refine bn ?_
  refine yS fun _ K6 => ?_
  refine yS fun _ K7 => ?_
  obtain ⟨v1, hv1⟩ : ∃ v : L2, (az f p).getD (iw (.agg #[.int .i64 0, .int .i64 0])) = .agg [.v (.int .i64 v.1), .v (.int .i64 v.2)] := n8 _ _
  obtain ⟨b1, hb1⟩ : ∃ b, (az f p).isSome = b := ⟨_, rfl⟩
  have hb2 : (f p).isSome = b1 := by rw [← hb1]; simp [az]
  refine gj [(0, none), (1, none), (2, none), (3, none), (4, none), (5, none), (6, none), (7, none), (8, none), (9, none), (10, none), (11, none)] (fun i => [10].contains i) (fun i => [9, 10].contains i) (fun i => [1, 2, 6, 7, 8, 11].contains i) [n] (by kernel_rfl) (by kernel_rfl) ?_
  try dsimp only [St.put]
  refine aj rfl rfl rfl rfl (a7 rfl rfl) ?_
  refine ah rfl rfl rfl rfl (iq rfl rfl) ?_
  refine ah rfl rfl rfl rfl (b9 rfl rfl rfl) ?_
  try dsimp only [St.put]
  refine aj rfl rfl rfl rfl (a7 rfl rfl) ?_
  try dsimp only [St.put]
  refine aj rfl rfl rfl rfl (aq rfl rfl rfl) ?_
  try dsimp only [St.put]
  refine aj rfl rfl rfl rfl (nt p rfl rfl zG (by simp) rfl hv1 hb1) ?_
  refine xM rfl rfl rfl rfl rfl ?_
  refine ah rfl rfl rfl rfl (c7 rfl rfl rfl) ?_
  refine ah rfl rfl rfl rfl (c7 rfl rfl rfl) ?_
  refine il ?_
  try dsimp only [St.put]
  refine jl rfl rfl rfl (bp rfl ⟨zD, ?_⟩)
  try dsimp only [St.put]
  refine gn rfl rfl rfl rfl (ay rfl rfl rfl zG rfl rfl (by rfl) ?_)
  refine jk rfl rfl rfl rfl (cg rfl (by constructor)) ?_
  refine ij ?_
  dsimp only [St.put]
  refine K7 _ ?_
  refine dg (i := 6) rfl zG (by first | exact List.cons_ne_nil _ _ | (simp; done) | (simp [putAt]; done)) ?_
  dsimp only
  refine yS fun _ K8 => ?_
  refine yR ?_
  refine yM rfl rfl ?_
  refine aa rfl (dn rfl rfl) ?_
  refine yN ?_
  dsimp only [St.put]
  refine K8 _ ?_
  refine al rfl (fun hc => ?_) (fun hc => ?_)
  ·have hno : f p = none := by
    have : b1 = false := by simpa using hc
    rw [this] at hb2
    simpa using hb2
   have hfin : kj t f p = [] := by simp [kj, hno]
   refine ey ?_
   unfold my mj
   dsimp only
   rw [hsnoc]
   rw [hfin]
   first
   | (rw [List.append_nil]
      exact zX)
   | exact zX
  have hys : (f p).isSome = true := by
   have : b1 = true := by simpa using hc
   rw [this] at hb2
   exact hb2
  refine aw ?_
  refine K6 _ ?_
  refine yS fun _ K9 => ?_
  refine yR ?_
  refine yM rfl rfl ?_
  refine aa rfl (vk rfl rfl (by omega)) ?_
  refine yM rfl rfl ?_
  refine yN ?_
  dsimp only [St.put]
  rw [show W = W ++ iu p 0 from (List.append_nil _).symm]
  refine K9 _ ?_
  refine bn ?_
  refine eg 27 ?_
  simp only [dj, bq, Nat.reduceAdd, List.getD_cons_zero, List.getD_cons_succ, List.getD_nil, dw, Nat.reduceBEq, cond_true, cond_false]
  refine fg ((ak (ak G nx (.box ((W ++ iu p 0)).length [.own (nx + 1) ((W ++ iu p 0)).length ((W ++ iu p 0)).length])) (nx + 1) (.arr ((W ++ iu p 0)).length 0 32 3 ((W ++ iu p 0)).length (co ((W ++ iu p 0)))))) zX ?_
  dsimp only
  refine fu (X := Nat) (fun k => k ≤ ws.length) (fun k => ws.length - k) (fun k => [(8, .any), (26, .v (.int .i64 (k : Int)))]) (fun k G' => (ak (ak G nx (.box ((W ++ iu p k)).length [.own (nx + 1) ((W ++ iu p k)).length ((W ++ iu p k)).length])) (nx + 1) (.arr ((W ++ iu p k)).length 0 32 3 ((W ++ iu p k)).length (co ((W ++ iu p k)))))) 0 rfl ?_ ?_ ?_ ?_ ?_ ?_
  ·exact Nat.zero_le _
  ·exact zF
  ·exact zX
  ·rintro k hI
   exact zL
  ·rintro k hI
   exact zH
  rintro k hJ
  dsimp only at hJ ⊢
  refine yS fun _ K10 => ?_
  refine yR ?_
  refine aa rfl (cr rfl rfl rfl) ?_
  refine yN ?_
  dsimp only [St.put]
  refine K10 _ ?_
  refine yS fun _ K11 => ?_
  refine al rfl (fun hc => ?_) (fun hc => ?_)
  ·replace hc := of_decide_eq_true hc
   refine aw ?_
   refine K11 _ ?_
   refine yS fun _ K12 => ?_
   refine bn ?_
   refine yS fun _ K13 => ?_
   refine yR ?_
   refine yM rfl rfl ?_
   refine yA rfl rfl ?_
   refine yN ?_
   dsimp only [St.put]
   refine K13 _ ?_
   refine yR ?_
   try dsimp only [St.put]
   refine af rfl (dd rfl rfl zG trivial (by first | rfl | assumption)) ?_
   try dsimp only [St.put]
   refine aa rfl (fb (k := 0) rfl rfl rfl (by first | exact rfl | omega) (by first | decide | omega) rfl) ?_
   refine yL rfl rfl rfl ?_
   try dsimp only [St.put]
   refine aa rfl (fb (k := 1) rfl rfl rfl (by first | exact rfl | omega) (by first | decide | omega) rfl) ?_
   refine yL rfl rfl rfl ?_
   refine yM rfl rfl ?_
   refine aa rfl (du rfl rfl) ?_
   try dsimp only [St.put]
   refine ae rfl (c9 rfl rfl rfl (by decide) (by decide) zR (by decide) ?_)
   try dsimp only [St.put]
   refine ae rfl (qe (⟨p.1, p.2, (k : Int)⟩ : PlaceD) rfl rfl zG rfl rfl rfl rfl (by simp only [List.length_append, s8]; omega) ?_ (by simp only [List.length_append, s8]; omega))
   try dsimp only [St.put]
   refine ae rfl (ay rfl rfl rfl zG rfl rfl (by rfl) ?_)
   refine yN ?_
   dsimp only [St.put]
   refine K12 _ ?_
   refine yR ?_
   refine aa rfl (bw rfl rfl rfl (by omega)) ?_
   refine yM rfl rfl ?_
   refine yN ?_
   dsimp only [St.put]
   rw [List.append_assoc, ← uho, show (W ++ iu p k).length + 1 = (W ++ iu p (k + 1)).length by simp only [List.length_append, s8]; omega]
   exact ⟨k + 1, by omega, by omega, ⟨⟨rfl, rfl⟩, zF, zB, zN, zX⟩⟩
  replace hc := of_decide_eq_false hc
  have hfin : kj t f p = iu p k := by
   have hk : k = ws.length := by omega
   rw [hk]; simp [kj, hys, hw]
  refine ey ?_
  unfold my mj
  dsimp only
  rw [hsnoc]
  rw [hfin]
  first
  | (rw [List.append_nil]
     exact zX)
  | exact zX
 dsimp only
 rw [hX.fst]
 refine K3 _ ?_
 refine yS fun _ K14 => ?_
 refine yR ?_
 try dsimp only [St.put]
 refine af rfl (dd rfl rfl zG trivial (by first | rfl | assumption)) ?_
 refine yA rfl rfl ?_
 refine yN ?_
 dsimp only [St.put]
 refine K14 _ ?_
 refine am ?_
 refine lp rfl (cj (by constructor)) zN zX ?_
 exact zW
theorem udr (t : ai) (e : av) (f : L2 → Option L2) (n m V : Nat) (ht : ct t = true) (G : Nat → Option GObj) (nx : Nat) (hn : n < nx) (hm : m < nx) (hG : G n = some (bo Tryz.prog 115 V (az f))) :
  PC Tryz.prog 56 [.elem (gi t e n m)] G nx fun r G' nx' => r = lst (fw t f) ∧ G' = G ∧ nx' = nx :=
 ugd (x8 t e f n m V ht G nx hn hm hG) (by omega) rfl rfl (fun _ => bh _ _)
/-! ### What is beside something -/
theorem ul3 (p : PlaceD) (x : Int) (g : Nat) (caps : List C) [Fun Tryz.prog g] (G : Nat → Option GObj) (nx : Nat) (hg : PC Tryz.prog g (.agg (cells p) :: caps) G nx fun r G' nx' => r = .v (.int .i64 x) ∧ G' = G ∧ nx' = nx) :
  PC Tryz.prog 89 [val p, .elem [.fn (.func g) caps]] G nx fun r G' nx' => r = .v (.bool (decide (0 < x))) ∧ G' = G ∧ nx' = nx := by
 refine l8 (G) (nx) Tryz.func89 rfl (.v) zN (fun hlt => zH) ?_
 simp only [Tryz.ntmps89, List.length_cons, List.length_nil, Nat.reduceAdd, Nat.reduceSub]
 refine bi fun hlt => ?_
 dsimp only at hlt
 refine yS fun _ K1 => ?_
 refine yR ?_
 try dsimp only [St.put]
 refine yB rfl rfl rfl ?_
 refine yA rfl rfl ?_
 refine yN ?_
 dsimp only [St.put]
 refine K1 _ ?_
 refine yS fun _ K2 => ?_
 refine yR ?_
 refine yL rfl rfl rfl ?_
 refine yE rfl rfl rfl ?_
 try dsimp only [St.put]
 refine ae rfl (f8 rfl rfl rfl hg ?_)
 refine aa rfl (gz rfl rfl rfl) ?_
 refine yA rfl rfl ?_
 refine yN ?_
 dsimp only [St.put]
 refine K2 _ ?_
 refine am ?_
 refine bf rfl (by constructor) zN zS ?_
 rfl
theorem uik (l : List PlaceD) (q : PlaceD → Bool) (g : Nat) (caps : List C) [Fun Tryz.prog g] (G : Nat → Option GObj) (nx : Nat) (hl : l.length ≤ 1000) (hcaps : ∀ c ∈ caps, c.low nx) (hg : ∀ p ∈ l, PC Tryz.prog g (val p :: caps) G nx fun r G' nx' => r = .v (.bool (q p)) ∧ G' = G ∧ nx' = nx) :
  PC Tryz.prog 88 [lst l, .fn (.func g) caps] G nx fun r G' nx' => r = .v (.int .i64 (if l.findIdx q < l.length then (l.findIdx q : Int) else -1)) ∧ G' = G ∧ nx' = nx := by
 refine l8 (G) (nx) Tryz.func88 rfl (.v) zN (fun hlt => zH) ?_
 simp only [Tryz.ntmps88, List.length_cons, List.length_nil, Nat.reduceAdd, Nat.reduceSub]
 refine bi fun hlt => ?_
 dsimp only at hlt
 refine yS fun _ K1 => ?_
 refine yR ?_
 refine yA rfl rfl ?_
 refine yN ?_
 dsimp only [St.put]
 refine K1 _ ?_
 refine yS fun _ K2 => ?_
 refine yS fun _ K3 => ?_
 refine yR ?_
 refine yM rfl rfl ?_
 refine aa rfl (ck rfl rfl (List.length_map _)) ?_
 refine yM rfl rfl ?_
 refine yN ?_
 dsimp only [St.put]
 refine K3 _ ?_
 refine bn ?_
 refine eg 9 ?_
 simp only [dj, bq, Nat.reduceAdd, List.getD_cons_zero, List.getD_cons_succ, List.getD_nil, dw, Nat.reduceBEq, cond_true, cond_false]
 refine fg (G) zX ?_
 dsimp only
 refine fu (X := Nat) (fun k => k ≤ l.length ∧ ∀ y ∈ l.take k, q y = false) (fun k => l.length - k) (fun k => [(5, .any), (8, .v (.int .i64 (k : Int)))]) (fun k G' => G') 0 rfl ?_ ?_ (fun _ _ h => h) ?_ ?_ ?_
 ·exact ⟨Nat.zero_le _, fun y hy => by simp at hy⟩
 ·exact zF
 ·rintro k hI
  exact zL
 ·exact fun _ _ _ _ h => .inl h
 rintro k hI
 dsimp only at hI ⊢
 refine yS fun _ K4 => ?_
 refine yR ?_
 refine aa rfl (cr rfl rfl rfl) ?_
 refine yN ?_
 dsimp only [St.put]
 refine K4 _ ?_
 refine yS fun _ K5 => ?_
 refine al rfl (fun hc => ?_) (fun hc => ?_)
 ·replace hc := of_decide_eq_true hc
  obtain ⟨x, hx⟩ : ∃ x, l[k]? = some x := fj (by omega)
  refine aw ?_
  refine K5 _ ?_
  refine yS fun _ K6 => ?_
  refine bn ?_
  refine yS fun _ K7 => ?_
  refine yR ?_
  refine yM rfl rfl ?_
  refine yA rfl rfl ?_
  refine yN ?_
  dsimp only [St.put]
  refine K7 _ ?_
  refine yS fun _ K8 => ?_
  refine yR ?_
  refine yM rfl rfl ?_
  refine yM rfl rfl ?_
  refine yM rfl rfl ?_
  refine aa rfl (b7 rfl rfl rfl rfl (cm (by assumption)) (Enc.len _)) ?_
  refine yE rfl rfl rfl ?_
  try dsimp only [St.put]
  refine ae rfl (f8 rfl rfl rfl (hg x (gr hx)) ?_)
  refine yN ?_
  dsimp only [St.put]
  refine K8 _ ?_
  refine al rfl (fun hc => ?_) (fun hc => ?_)
  ·have hfi : l.findIdx q = k := ujh hx hI.2 hc
   refine yS fun _ K9 => ?_
   refine yR ?_
   refine yM rfl rfl ?_
   refine yA rfl rfl ?_
   refine yN ?_
   dsimp only [St.put]
   refine K9 _ ?_
   refine am ?_
   refine bf rfl (by constructor) zN zS ?_
   exact vi (by rw [hfi, if_pos (by omega)])
  skip
  refine aw ?_
  refine K6 _ ?_
  refine yR ?_
  refine aa rfl (bw rfl rfl rfl (by omega)) ?_
  refine yM rfl rfl ?_
  refine yN ?_
  dsimp only [St.put]
  exact ⟨k + 1, by omega, ⟨by omega, ueg hx hI.2 hc⟩, ⟨⟨rfl, rfl⟩, zF, zB, zN, zX⟩⟩
 replace hc := of_decide_eq_false hc
 have hfi : ¬ l.findIdx q < l.length := ujg (by omega) hI.2
 refine ey ?_
 refine K2 _ ?_
 refine yS fun _ K10 => ?_
 refine yR ?_
 refine yA rfl rfl ?_
 refine yN ?_
 dsimp only [St.put]
 refine K10 _ ?_
 refine am ?_
 refine bf rfl (by constructor) zN zS ?_
 exact vi (by rw [if_neg hfi])
end Go.Proofs.YtjjklfgpffgnfaaGreatDoor
