/-
 Contracts of the program's small functions of copies: the order of places, the kinds of readings.
-/
import Derived.Test.YtjjklfgpffgnfabGreatDoorGrpI
import Derived.Test.YtjjklfgpffgnfabGreatDoorEcRefer
import Derived.Test.YtjjklfgpffgnfabGreatDoorEgComp
import Derived.Test.YtjjklfgpffgnfabGreatDoorAbCut
import Derived.Test.YtjjklfgpffgnfabGreatDoorGrpH
namespace Go.AB
open Go Go.RowKit
open Go.AB.Enc (cells)
open Go.PB (bh af PlaceD ar bp cj)
/-- the first of some numbers that is not nought -/
def orP (xs : List Int) : Int := (xs.find? fun x => !decide (x = 0)).getD 0
theorem ujv {xs : List Int} {k : Nat} {x : Int} (hx : xs[k]? = some x) (hne : x ≠ 0) (h : ∀ y ∈ xs.take k, y = 0) : orP xs = x := by
 unfold orP
 rw [List.find?_eq_some_iff_append.2 ⟨by simpa using hne, xs.take k, xs.drop (k + 1), ?_, fun y hy => by simp [h y hy]⟩]
 ·rfl
 obtain ⟨h1, h2⟩ := List.getElem?_eq_some_iff.1 hx
 rw [← h2, ← List.drop_eq_getElem_cons h1, List.take_append_drop]
theorem ujw {xs : List Int} (h : ∀ y ∈ xs, y = 0) : orP xs = 0 := by
 unfold orP
 rw [List.find?_eq_none.2 fun y hy => by simp [h y hy]]
 rfl
theorem ujx (a b : PlaceD) : orP [fm a.ch b.ch, fm a.ln b.ln, fm a.wd b.wd] = jx a b := by
 obtain ⟨a1, a2, a3⟩ := a
 obtain ⟨b1, b2, b3⟩ := b
 have key : ∀ x y : Int, (x < y ∧ ¬ y < x ∧ ¬ x = y) ∨ (y < x ∧ ¬ x < y ∧ ¬ x = y) ∨ x = y := fun x y => by omega
 rcases key a1 b1 with ⟨h1, h2, h3⟩ | ⟨h1, h2, h3⟩ | rfl
 ·simp [orP, fm, jx, h1, h2, h3]
 ·simp [orP, fm, jx, h1, h2, h3]
 rcases key a2 b2 with ⟨h1, h2, h3⟩ | ⟨h1, h2, h3⟩ | rfl
 ·simp [orP, fm, jx, h1, h2, h3]
 ·simp [orP, fm, jx, h1, h2, h3]
 rcases key a3 b3 with ⟨h1, h2, h3⟩ | ⟨h1, h2, h3⟩ | rfl
 ·simp [orP, fm, jx, h1, h2, h3]
 ·simp [orP, fm, jx, h1, h2, h3]
 simp [orP, fm, jx]
theorem xw {α : Type} {l : List α} {k : Nat} {x : α} {p : α → Prop} (hx : l[k]? = some x) (hp : p x) (h : ∀ y ∈ l.take k, p y) : ∀ y ∈ l.take (k + 1), p y := fun y hy => by
 rw [List.take_add_one, hx] at hy
 simp only [Option.toList_some, List.mem_append, List.mem_singleton] at hy
 rcases hy with hy | rfl
 ·exact h y hy
 exact hp
/-- what a kind of readings asks, and makes -/
def sk (k : Nat) (own put : ByteArray) : Bool := bif decide (k = 1) then decide (put = ByteArray.empty) else bif decide (k = 2) then ib put else ib put && !decide (put = own)
def pi (k : Nat) (own put : ByteArray) : List ByteArray := bif decide (k = 1) then [] else bif decide (k = 2) then [put, own] else [put]
def ly (k : Nat) : Int := bif decide (k = 2) then 1 else 0
def vc (c : bp) : Bool := decide (30 < c.rs.length) || c.rs.any fun r => decide (40 < r.word.size)
theorem ub3 {P : Program} {o : Oper} {st : St} {t : TypeId} {x i : Operand} {m j : Nat} {v : Value} {cs : List C} {d : C} {ds : List C} {e : TypeId} {ik : IntKind} {n : Int} {k sz : Nat} {ag : Bool} [ArrT P t m e] [Ty P e ag sz] (ho : o.op = .indexAddr t x i) (hx : evC st x = .v v) (hG : st.G j = some (.fact v (.elem cs))) (hi : evC st i = .v (.int ik n)) (hn : n = (k : Int)) (hk : k < m) (hd : cs.drop (k * sz) = d :: ds) : NStep P o st (.elem (d :: ds)) := fun E w a hs => by
 subst hn
 have e1 := (hi ▸ hs.ev i).v_inv
 have e0 := (hx ▸ hs.ev x).v_inv
 obtain ⟨b, off, us, hv, h1, h2, h3, h4, _⟩ := (hs.g.obj j _ hG).2.elem_inv
 refine ⟨.pointer (some ⟨b, off + k * sz, none⟩), hd ▸ R.elem_drop h1 h2 h3 h4 (k * sz) (by rw [hd]; simp), fun w' => ?_⟩
 have q1 := ArrT.spec (P := P) (t := t) (n := m) (e := e)
 have q2 := Ty.size (P := P) (w := w') (t := e) (ag := ag) (n := sz)
 have q3 : (k : Int) < (m : Int) := by omega
 simp [execOp, ho, Instr.indexAt, Instr.sureAddr, e0, hv, e1, asIntOf, run_underlying q1, q2, q3, m3]
 intro h; omega
/-- A call that leaves all as it was, where a fact is known by a name. -/
def s7 (n : Nat) (F : GObj) (P : Program) (f : FuncId) (args : List C) (r : C) : Prop := ∀ G nx, G n = some F → n < nx → PC P f args G nx fun r' G' nx' => r' = r ∧ G' = G ∧ nx' = nx
theorem sv {n : Nat} {F : GObj} {P : Program} {o : Oper} {st : St} {f : FuncId} [Fun P f] {fv : Operand} {args : List Operand} {ats : Array TypeId} {caps al : List C} {K : St → Prop} {r : C} (ho : o.op = .call { callee := .value fv, args := args.toArray, argTypes := ats }) (hf : evC st fv = .fn (.func f) caps) (has : args.map (evC st) ++ caps = al)
  (hp : s7 n F P f al r) (hG : st.G n = some F) (hn : n < st.nx) (h : K (st.put o.dst r)) : EStep P o st K := fg ho hf has (hp _ _ hG hn) h
theorem uir (t : af) (r : ar) {l : List ByteArray} (hw : ei t (r.pl.ch, r.pl.ln) = some l) {k : Nat} (hk : r.kind = (k : Int)) (h1 : 1 ≤ k) (h3 : k ≤ 3) : j5 t r = (inB r.pl.wd 0 ((l.length : Int) - 1 + ly k) && sk k (eo l r.pl.wd.toNat) r.word) := by
 unfold j5
 rw [hw]
 dsimp only
 have : k = 1 ∨ k = 2 ∨ k = 3 := by omega
 rcases this with rfl | rfl | rfl
 ·simp [hk, sk, ly]
 ·simp [hk, sk, ly]
 simp [hk, sk, ly]
theorem uaz {t : af} {r : ar} (hw : ei t (r.pl.ch, r.pl.ln) = none) : j5 t r = false := by
 unfold j5
 rw [hw]
theorem uay {t : af} {r : ar} (h : inB r.kind 1 3 = false) : j5 t r = false := by
 rw [umk] at h
 unfold j5
 cases ei t (r.pl.ch, r.pl.ln) with
 | none => rfl
 | some l =>
  dsimp only
  rw [decide_eq_false (show ¬ r.kind = 1 by omega), decide_eq_false (show ¬ r.kind = 2 by omega), decide_eq_false (show ¬ r.kind = 3 by omega)]
  rfl
theorem uk6 {own : ByteArray} {r : ar} {k : Nat} (hk : r.kind = (k : Int)) : uj own r = pi k own r.word := by
 unfold uj pi
 have e1 : decide (r.kind = 1) = decide (k = 1) := by rw [hk]; exact decide_eq_decide.2 (by omega)
 have e2 : decide (r.kind = 2) = decide (k = 2) := by rw [hk]; exact decide_eq_decide.2 (by omega)
 rw [e1, e2]
end Go.AB
namespace Go.Proofs.YtjjklfgpffgnfabGreatDoor
set_option maxRecDepth 10000
open Go.RowKit Go.AB
open Go.AB.Enc (cells)
open Go.PB (bh af PlaceD ar bp cj)
theorem uor (xs : List Int) : ce Tryz.prog 141 [lst xs] (.v (.int .i64 (orP xs))) := by
 refine cv Tryz.func141 rfl (fun m => .v) fun G nx => ?_
 simp only [Tryz.ntmps141, List.length_cons, List.length_nil, Nat.reduceAdd, Nat.reduceSub]
 refine bf fun hlt => ?_
 dsimp only at hlt
 refine jn 0 (fun hf => ?_)
 replace hf := (fit_lst.1 hf).1
 refine yS fun _ K1 => ?_
 refine yR ?_
 refine yA rfl rfl ?_
 refine yN ?_
 dsimp only [St.put]
 refine K1 _ ?_
 refine yS fun _ K2 => ?_
 refine yR ?_
 refine yA rfl rfl ?_
 refine yN ?_
 dsimp only [St.put]
 refine K2 _ ?_
 refine yS fun _ K3 => ?_
 refine yS fun _ K4 => ?_
 refine yR ?_
 refine yM rfl rfl ?_
 refine aa rfl (bx rfl rfl (List.length_map _)) ?_
 refine yM rfl rfl ?_
 refine yN ?_
 dsimp only [St.put]
 refine K4 _ ?_
 refine bg ?_
 refine di 9 ?_
 simp only [cx, bi, Nat.reduceAdd, List.getD_cons_zero, List.getD_cons_succ, List.getD_nil, dc, Nat.reduceBEq, cond_true, cond_false]
 refine dv (G) zX ?_
 dsimp only
 refine el (X := Nat) (fun k => k ≤ xs.length ∧ ∀ y ∈ xs.take k, y = 0) (fun k => xs.length - k) (fun k => [(4, .any), (5, .any), (8, .v (.int .i64 (k : Int)))]) (fun k G' => G') 0 rfl ?_ ?_ (fun _ _ h => h) ?_ ?_ ?_
 ·exact ⟨by simp, by simp⟩
 ·exact zF
 ·rintro k hI
  exact zL
 ·exact fun _ _ _ _ h => .inl h
 rintro k hI
 dsimp only at hI ⊢
 refine yS fun _ K5 => ?_
 refine yR ?_
 refine aa rfl (ck rfl rfl rfl) ?_
 refine yN ?_
 dsimp only [St.put]
 refine K5 _ ?_
 refine yS fun _ K6 => ?_
 refine ak rfl (fun hc => ?_) (fun hc => ?_)
 ·replace hc := of_decide_eq_true hc
  obtain ⟨x, hx⟩ : ∃ x, xs[k]? = some x := dw (by omega)
  refine aq ?_
  refine K6 _ ?_
  refine yS fun _ K7 => ?_
  refine bg ?_
  refine yS fun _ K8 => ?_
  refine yR ?_
  refine aa rfl (b8 rfl rfl rfl rfl (cg (by assumption)) (Enc.len _)) ?_
  refine yL rfl rfl rfl ?_
  refine yA rfl rfl ?_
  refine yN ?_
  dsimp only [St.put]
  refine K8 _ ?_
  refine yS fun _ K9 => ?_
  refine yR ?_
  refine yM rfl rfl ?_
  refine yM rfl rfl ?_
  refine aa rfl (cz rfl rfl rfl) ?_
  refine yN ?_
  dsimp only [St.put]
  refine K9 _ ?_
  refine ak rfl (fun hc => ?_) (fun hc => ?_)
  ·replace hc := mx hc
   refine yS fun _ K10 => ?_
   refine yR ?_
   refine yM rfl rfl ?_
   refine yA rfl rfl ?_
   refine yN ?_
   dsimp only [St.put]
   refine K10 _ ?_
   refine aj ?_
   refine ay rfl (by constructor) zN zS ?_
   exact vi (ujv hx hc hI.2).symm
  replace hc := kw hc
  refine aq ?_
  refine K7 _ ?_
  refine yR ?_
  refine aa rfl (ca rfl rfl rfl (by omega)) ?_
  refine yM rfl rfl ?_
  refine yN ?_
  dsimp only [St.put]
  exact ⟨k + 1, by omega, ⟨by omega, xw hx hc hI.2⟩, ⟨⟨rfl, rfl⟩, zF, zB, zN, zX⟩⟩
 try replace hc := of_decide_eq_false hc
 refine dl ?_
 refine K3 _ ?_
 refine yS fun _ K11 => ?_
 refine yR ?_
 refine yM rfl rfl ?_
 refine yA rfl rfl ?_
 refine yN ?_
 dsimp only [St.put]
 refine K11 _ ?_
 refine aj ?_
 refine ay rfl (by constructor) zN zS ?_
 exact vi (by
  rw [ujw]
  have := hI.2
  rwa [fj (by omega)] at this)
theorem ulk (a b : PlaceD) : ce Tryz.prog 128 [val a, val b] (.v (.int .i64 (jx a b))) := by
 refine cv Tryz.func128 rfl (fun m => .v) fun G nx => ?_
 simp only [Tryz.ntmps128, List.length_cons, List.length_nil, Nat.reduceAdd, Nat.reduceSub]
 refine bf fun hlt => ?_
 dsimp only at hlt
 refine yS fun _ K1 => ?_
 refine yR ?_
 try dsimp only [St.put]
 refine yB rfl rfl rfl ?_
 try dsimp only [St.put]
 refine yB rfl rfl rfl ?_
 refine yA rfl rfl ?_
 refine yN ?_
 dsimp only [St.put]
 refine K1 _ ?_
 refine yS fun _ K2 => ?_
 refine gh [(0, none), (1, none), (2, none), (3, none), (5, none), (6, none), (7, none), (8, none), (10, none), (11, none), (12, none), (13, none), (4, none), (9, none), (14, none), (15, none), (16, none), (17, none)] (fun i => [14, 15, 16].contains i) (fun i => [4, 9, 14, 15, 16].contains i) (fun i => [0, 2, 5, 7, 10, 12, 17].contains i) [] (by kernel_rfl) (by kernel_rfl) ?_
 refine ai rfl rfl rfl rfl (cd rfl rfl rfl) ?_
 try dsimp only [St.put]
 refine az rfl rfl rfl rfl (bq rfl rfl) ?_
 refine ai rfl rfl rfl rfl (cd rfl rfl rfl) ?_
 try dsimp only [St.put]
 refine az rfl rfl rfl rfl (bq rfl rfl) ?_
 refine ai rfl rfl rfl rfl (cd rfl rfl rfl) ?_
 try dsimp only [St.put]
 refine az rfl rfl rfl rfl (bq rfl rfl) ?_
 refine ai rfl rfl rfl rfl (cd rfl rfl rfl) ?_
 try dsimp only [St.put]
 refine az rfl rfl rfl rfl (bq rfl rfl) ?_
 refine ai rfl rfl rfl rfl (cd rfl rfl rfl) ?_
 try dsimp only [St.put]
 refine az rfl rfl rfl rfl (bq rfl rfl) ?_
 refine ai rfl rfl rfl rfl (cd rfl rfl rfl) ?_
 try dsimp only [St.put]
 refine az rfl rfl rfl rfl (bq rfl rfl) ?_
 refine il ?_
 try dsimp only [St.put]
 refine jp rfl rfl rfl (a7 rfl rfl rfl (vp _ _) ⟨zD, ?_⟩)
 try dsimp only [St.put]
 refine jp rfl rfl rfl (a7 rfl rfl rfl (vp _ _) ⟨zD, ?_⟩)
 try dsimp only [St.put]
 refine gl rfl rfl rfl rfl (a7 rfl rfl rfl (vp _ _) ?_)
 try dsimp only [St.put]
 refine gl rfl rfl rfl rfl (cq rfl rfl rfl (by decide) (by decide) zR (by decide) ?_)
 try dsimp only [St.put]
 refine gl rfl rfl rfl rfl (a7 rfl rfl rfl (uor [fm a.ch b.ch, fm a.ln b.ln, fm a.wd b.wd]) ?_)
 refine jl rfl rfl rfl rfl (eh rfl (by constructor)) ?_
 refine ij ?_
 dsimp only [St.put]
 refine K2 _ ?_
 refine aj ?_
 refine ay rfl (by constructor) zN zS ?_
 exact vi (ujx a b)
theorem ucp (l : List ByteArray) (w : Nat) (hw : w ≤ l.length) : ce Tryz.prog 97 [lst l, .v (.int .i64 (w : Int))] (.v (.string (eo l w))) := by
 refine cv Tryz.func97 rfl (fun m => .v) fun G nx => ?_
 simp only [Tryz.ntmps97, List.length_cons, List.length_nil, Nat.reduceAdd, Nat.reduceSub]
 refine bf fun hlt => ?_
 dsimp only at hlt
 refine yS fun _ K1 => ?_
 refine yR ?_
 refine yA rfl rfl ?_
 refine yN ?_
 dsimp only [St.put]
 refine K1 _ ?_
 refine yS fun _ K2 => ?_
 refine yS fun _ K3 => ?_
 refine yR ?_
 refine yM rfl rfl ?_
 refine yM rfl rfl ?_
 refine aa rfl (bx rfl rfl (List.length_map _)) ?_
 refine aa rfl (gx rfl rfl rfl) ?_
 refine yN ?_
 dsimp only [St.put]
 refine K3 _ ?_
 refine ak rfl (fun hc => ?_) (fun hc => ?_)
 ·replace hc := of_decide_eq_true hc
  have h0 : eo l w = ByteArray.empty := by unfold eo; rw [List.getElem?_eq_none (by omega)]; rfl
  refine yS fun _ K4 => ?_
  refine yR ?_
  refine yA rfl rfl ?_
  refine yN ?_
  dsimp only [St.put]
  refine K4 _ ?_
  refine aj ?_
  refine ay rfl (by constructor) zN zS ?_
  rw [h0]
  rfl
 replace hc := of_decide_eq_false hc
 obtain ⟨s, hs⟩ : ∃ x, l[w]? = some x := dw (by omega)
 have h0 : eo l w = s := by unfold eo; rw [hs]; rfl
 refine aq ?_
 refine K2 _ ?_
 refine yS fun _ K5 => ?_
 refine yR ?_
 refine yM rfl rfl ?_
 refine yM rfl rfl ?_
 refine aa rfl (b8 rfl rfl rfl rfl (cg (by assumption)) (Enc.len _)) ?_
 refine yL rfl rfl rfl ?_
 refine yA rfl rfl ?_
 refine yN ?_
 dsimp only [St.put]
 refine K5 _ ?_
 refine aj ?_
 refine ay rfl (by constructor) zN zS ?_
 rw [h0]
theorem uik (l : List ByteArray) (hl : l.length ≤ 100000) : ce Tryz.prog 130 [lst l] (.v (.bool (!inB l.length 1 10))) := by
 refine cv Tryz.func130 rfl (fun m => .v) fun G nx => ?_
 simp only [Tryz.ntmps130, List.length_cons, List.length_nil, Nat.reduceAdd, Nat.reduceSub]
 refine bf fun hlt => ?_
 dsimp only at hlt
 refine yS fun _ K1 => ?_
 refine yR ?_
 refine yA rfl rfl ?_
 refine yN ?_
 dsimp only [St.put]
 refine K1 _ ?_
 refine yS fun _ K2 => ?_
 refine yR ?_
 refine yM rfl rfl ?_
 refine aa rfl (bx rfl rfl (List.length_map _)) ?_
 try dsimp only [St.put]
 refine ae rfl (cq rfl rfl rfl (by decide) (by decide) zR (by decide) ?_)
 try dsimp only [St.put]
 refine ae rfl (a7 rfl rfl rfl (lh _ _ [(l.length : Int)]) ?_)
 refine aa rfl (c9 rfl rfl) ?_
 refine yA rfl rfl ?_
 refine yN ?_
 dsimp only [St.put]
 refine K2 _ ?_
 refine aj ?_
 refine ay rfl (by constructor) zN zS ?_
 exact vb (by rw [gk])
theorem ul3 (own put : ByteArray) : ce Tryz.prog 165 [.v (.string own), .v (.string put)] (.v (.bool (decide (put = ByteArray.empty)))) := by
 refine cv Tryz.func165 rfl (fun m => .v) fun G nx => ?_
 simp only [Tryz.ntmps165, List.length_cons, List.length_nil, Nat.reduceAdd, Nat.reduceSub]
 refine bf fun hlt => ?_
 dsimp only at hlt
 refine yS fun _ K1 => ?_
 refine yR ?_
 refine yA rfl rfl ?_
 refine yN ?_
 dsimp only [St.put]
 refine K1 _ ?_
 refine yS fun _ K2 => ?_
 refine yR ?_
 refine yM rfl rfl ?_
 refine aa rfl (uke rfl rfl rfl) ?_
 refine yA rfl rfl ?_
 refine yN ?_
 dsimp only [St.put]
 refine K2 _ ?_
 refine aj ?_
 refine ay rfl (by constructor) zN zS ?_
 rfl
theorem ul2 (own put : ByteArray) : ce Tryz.prog 166 [.v (.string own), .v (.string put)] (lst ([] : List ByteArray)) := by
 refine cv Tryz.func166 rfl (fun m => (bd _ _)) fun G nx => ?_
 simp only [Tryz.ntmps166, List.length_cons, List.length_nil, Nat.reduceAdd, Nat.reduceSub]
 refine bf fun hlt => ?_
 dsimp only at hlt
 refine yS fun _ K1 => ?_
 refine yR ?_
 refine yA rfl rfl ?_
 refine yN ?_
 dsimp only [St.put]
 refine K1 _ ?_
 refine yS fun _ K2 => ?_
 refine yR ?_
 refine yA rfl rfl ?_
 refine yN ?_
 dsimp only [St.put]
 refine K2 _ ?_
 refine aj ?_
 refine jw rfl (ci (by constructor)) zN zS ?_
 exact zW
theorem ul1 (own put : ByteArray) : ce Tryz.prog 167 [.v (.string own), .v (.string put)] (.v (.bool (ib put))) := by
 refine cv Tryz.func167 rfl (fun m => .v) fun G nx => ?_
 simp only [Tryz.ntmps167, List.length_cons, List.length_nil, Nat.reduceAdd, Nat.reduceSub]
 refine bf fun hlt => ?_
 dsimp only at hlt
 refine yS fun _ K1 => ?_
 refine yR ?_
 refine yA rfl rfl ?_
 refine yN ?_
 dsimp only [St.put]
 refine K1 _ ?_
 refine yS fun _ K2 => ?_
 refine yR ?_
 refine yM rfl rfl ?_
 try dsimp only [St.put]
 refine ae rfl (a7 rfl rfl rfl (vz put) ?_)
 refine yA rfl rfl ?_
 refine yN ?_
 dsimp only [St.put]
 refine K2 _ ?_
 refine aj ?_
 refine ay rfl (by constructor) zN zS ?_
 rfl
theorem ul0 (own put : ByteArray) : ce Tryz.prog 168 [.v (.string own), .v (.string put)] (lst [put, own]) := by
 refine cv Tryz.func168 rfl (fun m => (bd _ _)) fun G nx => ?_
 simp only [Tryz.ntmps168, List.length_cons, List.length_nil, Nat.reduceAdd, Nat.reduceSub]
 refine bf fun hlt => ?_
 dsimp only at hlt
 refine yS fun _ K1 => ?_
 refine yR ?_
 refine yA rfl rfl ?_
 refine yN ?_
 dsimp only [St.put]
 refine K1 _ ?_
 refine yS fun _ K2 => ?_
 refine yR ?_
 refine yM rfl rfl ?_
 refine yM rfl rfl ?_
 try dsimp only [St.put]
 refine ae rfl (cq rfl rfl rfl (by decide) (by decide) zR (by decide) ?_)
 refine yA rfl rfl ?_
 refine yN ?_
 dsimp only [St.put]
 refine K2 _ ?_
 refine aj ?_
 refine jw rfl (ci (by constructor)) zN zS ?_
 exact zW
theorem ulz (own put : ByteArray) : ce Tryz.prog 169 [.v (.string own), .v (.string put)] (.v (.bool (ib put && !decide (put = own)))) := by
 refine cv Tryz.func169 rfl (fun m => .v) fun G nx => ?_
 simp only [Tryz.ntmps169, List.length_cons, List.length_nil, Nat.reduceAdd, Nat.reduceSub]
 refine bf fun hlt => ?_
 dsimp only at hlt
 refine yS fun _ K1 => ?_
 refine yR ?_
 refine yA rfl rfl ?_
 refine yN ?_
 dsimp only [St.put]
 refine K1 _ ?_
 refine yS fun _ K2 => ?_
 refine yR ?_
 refine yM rfl rfl ?_
 try dsimp only [St.put]
 refine ae rfl (a7 rfl rfl rfl (vz put) ?_)
 refine yM rfl rfl ?_
 refine et (fun hs => ?_) (fun hs => ?_)
 ·try replace hs := of_decide_eq_true hs
  refine yM rfl rfl ?_
  refine yM rfl rfl ?_
  refine aa rfl (ukd rfl rfl rfl) ?_
  refine aa rfl (co rfl rfl (by constructor)) ?_
  refine yA rfl rfl ?_
  refine yN ?_
  dsimp only [St.put]
  refine K2 _ ?_
  refine aj ?_
  refine ay rfl (by constructor) zN zS ?_
  exact vb (by simp [hs])
 try replace hs := of_decide_eq_false hs
 refine yK rfl ?_
 refine yK rfl ?_
 refine yK rfl ?_
 refine aa rfl (dh rfl rfl (by constructor)) ?_
 refine yA rfl rfl ?_
 refine yN ?_
 dsimp only [St.put]
 refine K2 _ ?_
 refine aj ?_
 refine ay rfl (by constructor) zN zS ?_
 exact vb (by simp [hs])
theorem uly (own put : ByteArray) : ce Tryz.prog 170 [.v (.string own), .v (.string put)] (lst [put]) := by
 refine cv Tryz.func170 rfl (fun m => (bd _ _)) fun G nx => ?_
 simp only [Tryz.ntmps170, List.length_cons, List.length_nil, Nat.reduceAdd, Nat.reduceSub]
 refine bf fun hlt => ?_
 dsimp only at hlt
 refine yS fun _ K1 => ?_
 refine yR ?_
 refine yA rfl rfl ?_
 refine yN ?_
 dsimp only [St.put]
 refine K1 _ ?_
 refine yS fun _ K2 => ?_
 refine yR ?_
 refine yM rfl rfl ?_
 try dsimp only [St.put]
 refine ae rfl (cq rfl rfl rfl (by decide) (by decide) zR (by decide) ?_)
 refine yA rfl rfl ?_
 refine yN ?_
 dsimp only [St.put]
 refine K2 _ ?_
 refine aj ?_
 refine jw rfl (ci (by constructor)) zN zS ?_
 exact zW
theorem uq9 (xs : List (List ByteArray)) (p : List ByteArray → Bool) (k : Nat) (caps : List C) [Fun Tryz.prog k] (hp : ∀ x ∈ xs, ce Tryz.prog k (lst x :: caps) (.v (.bool (p x)))) : ce Tryz.prog 142 [lst xs, .fn (.func k) caps] (.v (.int .i64 (idxOf p xs))) := by
 refine cv Tryz.func142 rfl (fun m => .v) fun G nx => ?_
 simp only [Tryz.ntmps142, List.length_cons, List.length_nil, Nat.reduceAdd, Nat.reduceSub]
 refine bf fun hlt => ?_
 dsimp only at hlt
 refine jn 0 (fun hf => ?_)
 replace hf := (fit_lst.1 hf).1
 refine yS fun _ K1 => ?_
 refine yR ?_
 refine yA rfl rfl ?_
 refine yN ?_
 dsimp only [St.put]
 refine K1 _ ?_
 refine yS fun _ K2 => ?_
 refine yS fun _ K3 => ?_
 refine yR ?_
 refine yM rfl rfl ?_
 refine aa rfl (bx rfl rfl (List.length_map _)) ?_
 refine yM rfl rfl ?_
 refine yN ?_
 dsimp only [St.put]
 refine K3 _ ?_
 refine bg ?_
 refine di 9 ?_
 simp only [cx, bi, Nat.reduceAdd, List.getD_cons_zero, List.getD_cons_succ, List.getD_nil, dc, Nat.reduceBEq, cond_true, cond_false]
 refine dv (G) zX ?_
 dsimp only
 refine el (X := Nat) (fun k => k ≤ xs.length ∧ ∀ y ∈ xs.take k, p y = false) (fun k => xs.length - k) (fun k => [(4, .any), (5, .any), (8, .v (.int .i64 (k : Int)))]) (fun k G' => G') 0 rfl ?_ ?_ (fun _ _ h => h) ?_ ?_ ?_
 ·exact ⟨by simp, by simp⟩
 ·exact zF
 ·rintro k hI
  exact zL
 ·exact fun _ _ _ _ h => .inl h
 rintro k hI
 dsimp only at hI ⊢
 refine yS fun _ K4 => ?_
 refine yR ?_
 refine aa rfl (ck rfl rfl rfl) ?_
 refine yN ?_
 dsimp only [St.put]
 refine K4 _ ?_
 refine yS fun _ K5 => ?_
 refine ak rfl (fun hc => ?_) (fun hc => ?_)
 ·replace hc := of_decide_eq_true hc
  obtain ⟨x, hx⟩ : ∃ x, xs[k]? = some x := dw (by omega)
  refine aq ?_
  refine K5 _ ?_
  refine yS fun _ K6 => ?_
  refine bg ?_
  refine yS fun _ K7 => ?_
  refine yR ?_
  refine yM rfl rfl ?_
  refine yA rfl rfl ?_
  refine yN ?_
  dsimp only [St.put]
  refine K7 _ ?_
  refine yS fun _ K8 => ?_
  refine yR ?_
  refine yM rfl rfl ?_
  refine yM rfl rfl ?_
  refine yM rfl rfl ?_
  refine aa rfl (b8 rfl rfl rfl rfl (cg (by assumption)) (Enc.len _)) ?_
  refine yL rfl rfl rfl ?_
  try dsimp only [St.put]
  refine ae rfl (a7 rfl rfl rfl (hp x (e8 hx)) ?_)
  refine yN ?_
  dsimp only [St.put]
  refine K8 _ ?_
  refine ak rfl (fun hc => ?_) (fun hc => ?_)
  ·skip
   refine yS fun _ K9 => ?_
   refine yR ?_
   refine yM rfl rfl ?_
   refine yA rfl rfl ?_
   refine yN ?_
   dsimp only [St.put]
   refine K9 _ ?_
   refine aj ?_
   refine ay rfl (by constructor) zN zS ?_
   exact vi (uw hx hc hI.2).symm
  skip
  refine aq ?_
  refine K6 _ ?_
  refine yR ?_
  refine aa rfl (ca rfl rfl rfl (by omega)) ?_
  refine yM rfl rfl ?_
  refine yN ?_
  dsimp only [St.put]
  exact ⟨k + 1, by omega, ⟨by omega, xw (p := fun y => p y = false) hx (by simpa using hc) hI.2⟩, ⟨⟨rfl, rfl⟩, zF, zB, zN, zX⟩⟩
 try replace hc := of_decide_eq_false hc
 refine dl ?_
 refine K2 _ ?_
 refine yS fun _ K10 => ?_
 refine yR ?_
 refine yA rfl rfl ?_
 refine yN ?_
 dsimp only [St.put]
 refine K10 _ ?_
 refine aj ?_
 refine ay rfl (by constructor) zN zS ?_
 exact vi (by
  rw [ux]
  have := hI.2
  rwa [fj (by omega)] at this)
theorem urh (xs : List (List ByteArray)) (p : List ByteArray → Bool) (k : Nat) (caps : List C) [Fun Tryz.prog k] (hp : ∀ x ∈ xs, ce Tryz.prog k (lst x :: caps) (.v (.bool (p x)))) : ce Tryz.prog 129 [lst xs, .fn (.func k) caps] (.v (.bool (xs.any p))) := by
 refine cv Tryz.func129 rfl (fun m => .v) fun G nx => ?_
 simp only [Tryz.ntmps129, List.length_cons, List.length_nil, Nat.reduceAdd, Nat.reduceSub]
 refine bf fun hlt => ?_
 dsimp only at hlt
 refine yS fun _ K1 => ?_
 refine yR ?_
 refine yA rfl rfl ?_
 refine yN ?_
 dsimp only [St.put]
 refine K1 _ ?_
 refine yS fun _ K2 => ?_
 refine yR ?_
 refine yM rfl rfl ?_
 refine yM rfl rfl ?_
 try dsimp only [St.put]
 refine ae rfl (a7 rfl rfl rfl (uq9 xs p k caps hp) ?_)
 refine aa rfl (ni rfl rfl rfl) ?_
 refine yA rfl rfl ?_
 refine yN ?_
 dsimp only [St.put]
 refine K2 _ ?_
 refine aj ?_
 refine ay rfl (by constructor) zN zS ?_
 exact vb uy
theorem urd (c : bp) : ce Tryz.prog 33 [val c] (.v (.bool (vc c))) := by
 refine cv Tryz.func33 rfl (fun m => .v) fun G nx => ?_
 simp only [Tryz.ntmps33, List.length_cons, List.length_nil, Nat.reduceAdd, Nat.reduceSub]
 refine bf fun hlt => ?_
 dsimp only at hlt
 refine jn 0 (fun hf => ?_)
 have hf1 := (fit_lst.1 (fit_agg.1 hf _ (by exact List.mem_cons_of_mem _ (List.mem_cons_self ..)))).1
 refine yS fun _ K1 => ?_
 refine yR ?_
 try dsimp only [St.put]
 refine yB rfl rfl rfl ?_
 refine yA rfl rfl ?_
 refine yN ?_
 dsimp only [St.put]
 refine K1 _ ?_
 refine yS fun _ K2 => ?_
 refine yS fun _ K3 => ?_
 refine yR ?_
 refine yF rfl rfl rfl rfl ?_
 refine yL rfl rfl rfl ?_
 refine aa rfl (bx rfl rfl (List.length_map _)) ?_
 refine aa rfl (io rfl rfl rfl) ?_
 refine yN ?_
 dsimp only [St.put]
 refine K3 _ ?_
 refine ak rfl (fun hc => ?_) (fun hc => ?_)
 ·have h0 : 30 < c.rs.length := by have := of_decide_eq_true hc; omega
  refine yS fun _ K4 => ?_
  refine yR ?_
  refine yA rfl rfl ?_
  refine yN ?_
  dsimp only [St.put]
  refine K4 _ ?_
  refine aj ?_
  refine ay rfl (by constructor) zN zS ?_
  exact vb (by simp [vc, h0])
 have h0 : ¬ 30 < c.rs.length := by have := of_decide_eq_false hc; omega
 refine aq ?_
 refine K2 _ ?_
 refine yS fun _ K5 => ?_
 refine yS fun _ K6 => ?_
 refine yR ?_
 refine yA rfl rfl ?_
 refine yN ?_
 dsimp only [St.put]
 refine K6 _ ?_
 refine bg ?_
 refine di 4 ?_
 simp only [cx, bi, Nat.reduceAdd, List.getD_cons_zero, List.getD_cons_succ, List.getD_nil, dc, Nat.reduceBEq, cond_true, cond_false]
 refine dv (G) zX ?_
 dsimp only
 refine el (X := Nat) (fun k => k ≤ c.rs.length ∧ ∀ y ∈ c.rs.take k, decide (40 < y.word.size) = false) (fun k => c.rs.length - k) (fun k => [(3, .v (.int .i64 (k : Int)))]) (fun k G' => G') 0 rfl ?_ ?_ (fun _ _ h => h) ?_ ?_ ?_
 ·exact ⟨by simp, by simp⟩
 ·exact zF
 ·rintro k hI
  exact zL
 ·exact fun _ _ _ _ h => .inl h
 rintro k hI
 dsimp only at hI ⊢
 refine yS fun _ K7 => ?_
 refine yS fun _ K8 => ?_
 refine yR ?_
 refine yM rfl rfl ?_
 refine yF rfl rfl rfl rfl ?_
 refine yL rfl rfl rfl ?_
 refine aa rfl (bx rfl rfl (List.length_map _)) ?_
 refine aa rfl (ck rfl rfl rfl) ?_
 refine yN ?_
 dsimp only [St.put]
 refine K8 _ ?_
 refine ak rfl (fun hc => ?_) (fun hc => ?_)
 ·replace hc := of_decide_eq_true hc
  obtain ⟨x, hx⟩ : ∃ x, c.rs[k]? = some x := dw (by omega)
  refine aq ?_
  refine K7 _ ?_
  refine yS fun _ K9 => ?_
  refine bg ?_
  refine yS fun _ K10 => ?_
  refine yR ?_
  refine yF rfl rfl rfl rfl ?_
  refine yL rfl rfl rfl ?_
  refine yM rfl rfl ?_
  refine aa rfl (b8 rfl rfl rfl rfl (cg (by assumption)) (Enc.len _)) ?_
  refine yF rfl rfl rfl rfl ?_
  refine yL rfl rfl rfl ?_
  refine aa rfl (sc rfl rfl) ?_
  refine aa rfl (io rfl rfl rfl) ?_
  refine yN ?_
  dsimp only [St.put]
  refine K10 _ ?_
  refine ak rfl (fun hc => ?_) (fun hc => ?_)
  ·have h1 : 40 < x.word.size := by have := of_decide_eq_true hc; omega
   refine yS fun _ K11 => ?_
   refine yR ?_
   refine yA rfl rfl ?_
   refine yN ?_
   dsimp only [St.put]
   refine K11 _ ?_
   refine aj ?_
   refine ay rfl (by constructor) zN zS ?_
   exact vb (by
    have : (c.rs.any fun r => decide (40 < r.word.size)) = true := List.any_eq_true.2 ⟨x, e8 hx, decide_eq_true h1⟩
    simp [vc, this])
  have h1 : decide (40 < x.word.size) = false := decide_eq_false (by have := of_decide_eq_false hc; omega)
  refine aq ?_
  refine K9 _ ?_
  refine yR ?_
  refine yM rfl rfl ?_
  refine aa rfl (ca rfl rfl rfl (by omega)) ?_
  refine yA rfl rfl ?_
  refine yN ?_
  dsimp only [St.put]
  exact ⟨k + 1, by omega, ⟨by omega, xw (p := fun y : ar => decide (40 < y.word.size) = false) hx h1 hI.2⟩, ⟨⟨rfl, rfl⟩, zF, zB, zN, zX⟩⟩
 try replace hc := of_decide_eq_false hc
 refine dl ?_
 refine K5 _ ?_
 refine yS fun _ K12 => ?_
 refine yR ?_
 refine yA rfl rfl ?_
 refine yN ?_
 dsimp only [St.put]
 refine K12 _ ?_
 refine aj ?_
 refine ay rfl (by constructor) zN zS ?_
 exact vb (by
  have h2 := hI.2
  rw [fj (by omega)] at h2
  have : (c.rs.any fun r => decide (40 < r.word.size)) = false := by rw [List.any_eq_false]; intro y hy; simpa using h2 y hy
  simp [vc, h0, this])
end Go.Proofs.YtjjklfgpffgnfabGreatDoor
