/-
  What the walks through the program rest on: values, states, steps, calls (QsRef, SiChiefs, OpenL, OpenW, OpenS, OpenU, Trod).
-/
import Derived.Test.YtgffhbbcpgdjjaaDoorPartE
import Derived.Test.YtgffhbbcpgdjjaaDoorPartC
import Derived.Test.YtgffhbbcpgdjjaaDoorRows
import Derived.Test.YtgffhbbcpgdjjaaDoorPartD
import Derived.LaidMore
import Derived.RowKitVeiled
import Derived.Carry
namespace Go.AB
open Go Go.RowKit
theorem nk {ops : Array Oper} {st : St} {o : Oper} (h1 : qx o.op = false) (h2 : o.guard = none) : fb ops st o = some true := by
 unfold fb te
 rw [h1, h2]; rfl
theorem l6 {st : St} {i n : Nat} {c : C} (hn : st.n = n) (hi : Nat.blt i n = true) (h : bx st.l st.r i = c) : st.at i = c := by
 unfold St.at
 rw [hn, hi]; exact h
theorem ne {a b : Bool} (h : a = true → b = true) (hb : b = false) : a = false := by
 cases a
 ·rfl
 rw [h rfl] at hb; cases hb
end Go.AB
namespace Go.Proofs.YtgffhbbcpgdjjaaDoor
set_option maxRecDepth 10000
open Go Go.RowKit Go.AB
open Go.AB.Enc (cells)
open Go.PB (ay ak PlaceD bi bk bj bz av aq cy cx dp dm)
theorem yu {p : aq} (h : nl p = false) : ld p.text = false ∧ p.firsts.length ≤ 6 ∧ p.seconds.length ≤ 6 ∧ p.pages.length ≤ 12 ∧ ∀ x ∈ p.pages, x.found.length ≤ 200 ∧ x.well.length ≤ 200 := by
 unfold nl at h
 simp only [Bool.or_eq_false_iff, decide_eq_false_iff_not, List.any_eq_false] at h
 obtain ⟨⟨⟨⟨h1, h2⟩, h3⟩, h4⟩, h5⟩ := h
 refine ⟨h1, by omega, by omega, by omega, fun x hx => ?_⟩
 have := h5 x hx
 simp only [kh, Bool.or_eq_true, decide_eq_true_eq, not_or] at this
 omega
abbrev TwI (p : aq) (G0 : Nat → Option GObj) (n0 df : Nat) (l0 : List C) (A0 : Nat → C) (l : List Bool) (st : St) : Prop :=
 ∃ b2 b3 b6 b7 b10 b11 b14 b15 b16 b17 a b c d va vb vc, l = [true, true, b2, b3, true, true, b6, b7, true, true, b10, b11, true, true, b14, b15, b16, b17] ∧ TwS p 71 69 G0 n0 55 df l0 A0 b2 b3 b6 b7 b10 b11 b14 b15 b16 b17 st a b c d va vb vc
set_option maxHeartbeats 1000000 in
theorem uf0 (p : aq) (hg : nl p = false) {ol : List Oper} {K : St → Prop} {late : Nat → Bool} (st0 : St) (hlen : ol.length = 18) (hf : tg ol = true) (hgd : ∀ o ∈ ol, o.guard = none)
  (hd : ol.map mx = [[], [0], [1], [], [], [4], [3, 5, 2], [], [], [8], [7, 9, 6], [], [], [12], [11, 13, 10], [2, 6, 10, 14], [], [16, 15, 14, 0, 1, 2, 3, 4, 5, 6, 7, 8, 9, 10, 11, 12, 13, 14, 15, 16]])
  (hq : ol.map (·.dst) = [some 5, some 6, some 7, some 8, some 9, some 10, some 11, some 12, some 13, some 14, some 15, some 16, some 17, some 18, some 19, some 20, some 3, none])
  (ho : (ol.map (·.op)).drop 2 = [.call { callee := .value (.func 34), args := #[.tmp 6], argTypes := #[24] }, .buildSlice 25 0 #[], .fieldAddr 28 (.tmp 1) 1, .load 25 (.tmp 9),
   .call { callee := .builtin .append, args := #[.tmp 8, .tmp 10], argTypes := #[25, 25] }, .buildSlice 25 0 #[], .fieldAddr 28 (.tmp 1) 2, .load 25 (.tmp 13),
   .call { callee := .builtin .append, args := #[.tmp 12, .tmp 14], argTypes := #[25, 25] }, .buildSlice 26 0 #[], .fieldAddr 28 (.tmp 1) 3, .load 26 (.tmp 17),
   .call { callee := .builtin .append, args := #[.tmp 16, .tmp 18], argTypes := #[26, 26] }, .build 28 #[(0, .tmp 7), (1, .tmp 11), (2, .tmp 15), (3, .tmp 19)], .alloc 28, .store 28 (.tmp 3) (.tmp 20)])
  (hn : st0.n = 55) (h6 : bx st0.l st0.r 6 = fj p.text) (h10 : bx st0.l st0.r 10 = lst p.firsts) (h14 : bx st0.l st0.r 14 = lst p.seconds) (h18 : bx st0.l st0.r 18 = lst p.pages)
  (hK : ∀ st a b c d va vb vc, TwS p 71 69 st0.G st0.nx 55 st0.df st0.l (bx st0.l st0.r) true true true true true true true true true true st a b c d va vb vc → K st) :
  m6 Tryd.prog ol K late 10 (rl [2, 2, 2, 2, 2, 2, 2, 4]) st0 := by
 obtain ⟨g1, g2, g3, g4, g5⟩ := yu hg
 have hop : ∀ {i : Nat} {o : Oper}, ol[i]? = some o → ∀ {q : Op}, (ol.map (·.op))[i]? = some q → o.op = q := fun {i o} h {q} k => by
  rw [List.getElem?_map, h] at k; exact Option.some.inj k
 have hdst : ∀ {i : Nat} {o : Oper}, ol[i]? = some o → ∀ {q : Option Tmp}, (ol.map (·.dst))[i]? = some q → o.dst = q := fun {i o} h {q} k => by
  rw [List.getElem?_map, h] at k; exact Option.some.inj k
 have hdep : ∀ {i : Nat} {o : Oper}, ol[i]? = some o → ∀ {q : List Nat}, (ol.map mx)[i]? = some q → mx o = q := fun {i o} h {q} k => by
  rw [List.getElem?_map, h] at k; exact Option.some.inj k
 have hop2 : ∀ {i : Nat} {o : Oper}, ol[i + 2]? = some o → ∀ {q : Op}, ((ol.map (·.op)).drop 2)[i]? = some q → o.op = q := fun {i o} h {q} k => by
  rw [List.getElem?_drop, Nat.add_comm] at k
  exact hop h k
 refine zr (TwI p st0.G st0.nx st0.df st0.l (bx st0.l st0.r)) hf ?_ ?_ ?_ 10 _ st0 ?_ rfl
 ·rintro l st ⟨b2, b3, b6, b7, b10, b11, b14, b15, b16, b17, a, b, c, d, va, vb, vc, rfl, h⟩
  rw [hlen]; rfl
 ·rintro l st i o ⟨b2, b3, b6, b7, b10, b11, b14, b15, b16, b17, a, b, c, d, va, vb, vc, rfl, h⟩ hi hoff hdeps
  have hlt := (List.getElem?_eq_some_iff.1 hi).1
  have hgo := hgd o (List.mem_of_getElem? hi)
  rw [hlen] at hlt
  refine ⟨o, hi, .inl ?_⟩
  have hcase : i = 0 ∨ i = 1 ∨ i = 2 ∨ i = 3 ∨ i = 4 ∨ i = 5 ∨ i = 6 ∨ i = 7 ∨ i = 8 ∨ i = 9 ∨ i = 10 ∨ i = 11 ∨ i = 12 ∨ i = 13 ∨ i = 14 ∨ i = 15 ∨ i = 16 ∨ i = 17 := by omega
  rcases hcase with rfl | rfl | rfl | rfl | rfl | rfl | rfl | rfl | rfl | rfl | rfl | rfl | rfl | rfl | rfl | rfl | rfl | rfl
  ·cases hoff
  ·cases hoff
  ·-- the text
   have e1 := hop2 (i := 0) hi (by rw [ho]; rfl)
   have e2 := hdst hi (by rw [hq]; rfl)
   obtain rfl : b2 = false := Option.some.inj hoff
   refine ⟨nk (by rw [e1]; rfl) hgo, bq (caps := []) (args := [.tmp 6]) e1 rfl (congrArg (fun c => [c]) (l6 h.n rfl h.x6)) (ums p.text g1) ?_⟩
   rw [e2]
   exact ⟨true, b3, b6, b7, b10, b11, b14, b15, b16, b17, a, b, c, d, va, vb, vc, rfl, h.step2⟩
  ·have e1 := hop2 (i := 1) hi (by rw [ho]; rfl)
   have e2 := hdst hi (by rw [hq]; rfl)
   obtain rfl : b3 = false := Option.some.inj hoff
   refine ⟨nk (by rw [e1]; rfl) hgo, jn e1 (by decide) ?_⟩
   rw [e2]
   exact ⟨b2, true, b6, b7, b10, b11, b14, b15, b16, b17, st.nx, b, c, d, va, vb, vc, rfl, h.step3 (ne h.e6 rfl) (ne (fun e => h.e6 (h.q6 e)) rfl)⟩
  ·cases hoff
  ·cases hoff
  ·have e1 := hop2 (i := 4) hi (by rw [ho]; rfl)
   have e2 := hdst hi (by rw [hq]; rfl)
   have e3 := hdep hi (by rw [hd]; rfl)
   obtain rfl : b6 = false := Option.some.inj hoff
   obtain rfl : b3 = true := Option.some.inj (hdeps 3 (by rw [e3]; simp))
   refine ⟨nk (by rw [e1]; rfl) hgo, fu (xs := ([] : List bz)) p.firsts e1 (l6 h.n rfl (h.f3 rfl)) (h.g3 rfl rfl) rfl rfl (l6 h.n rfl h.x10) rfl (by simp only [List.length_nil]; omega) (by simp only [List.length_nil]; omega) (fun v => ?_)⟩
   rw [e2]
   exact ⟨b2, true, true, b7, b10, b11, b14, b15, b16, b17, a, b, c, d, v, vb, vc, rfl, h.step6 (ne h.q6 rfl) v⟩
  ·have e1 := hop2 (i := 5) hi (by rw [ho]; rfl)
   have e2 := hdst hi (by rw [hq]; rfl)
   obtain rfl : b7 = false := Option.some.inj hoff
   refine ⟨nk (by rw [e1]; rfl) hgo, jn e1 (by decide) ?_⟩
   rw [e2]
   exact ⟨b2, b3, b6, true, b10, b11, b14, b15, b16, b17, a, st.nx, c, d, va, vb, vc, rfl, h.step7 (ne h.e10 rfl) (ne (fun e => h.e10 (h.q10 e)) rfl)⟩
  ·cases hoff
  ·cases hoff
  ·have e1 := hop2 (i := 8) hi (by rw [ho]; rfl)
   have e2 := hdst hi (by rw [hq]; rfl)
   have e3 := hdep hi (by rw [hd]; rfl)
   obtain rfl : b10 = false := Option.some.inj hoff
   obtain rfl : b7 = true := Option.some.inj (hdeps 7 (by rw [e3]; simp))
   refine ⟨nk (by rw [e1]; rfl) hgo, fu (xs := ([] : List bz)) p.seconds e1 (l6 h.n rfl (h.f7 rfl)) (h.g7 rfl rfl) rfl rfl (l6 h.n rfl h.x14) rfl (by simp only [List.length_nil]; omega) (by simp only [List.length_nil]; omega) (fun v => ?_)⟩
   rw [e2]
   exact ⟨b2, b3, b6, true, true, b11, b14, b15, b16, b17, a, b, c, d, va, v, vc, rfl, h.step10 (ne h.q10 rfl) v⟩
  ·have e1 := hop2 (i := 9) hi (by rw [ho]; rfl)
   have e2 := hdst hi (by rw [hq]; rfl)
   obtain rfl : b11 = false := Option.some.inj hoff
   refine ⟨nk (by rw [e1]; rfl) hgo, jn e1 (by decide) ?_⟩
   rw [e2]
   exact ⟨b2, b3, b6, b7, b10, true, b14, b15, b16, b17, a, b, st.nx, d, va, vb, vc, rfl, h.step11 (ne h.e14 rfl) (ne (fun e => h.e14 (h.q14 e)) rfl)⟩
  ·cases hoff
  ·cases hoff
  ·have e1 := hop2 (i := 12) hi (by rw [ho]; rfl)
   have e2 := hdst hi (by rw [hq]; rfl)
   have e3 := hdep hi (by rw [hd]; rfl)
   obtain rfl : b14 = false := Option.some.inj hoff
   obtain rfl : b11 = true := Option.some.inj (hdeps 11 (by rw [e3]; simp))
   refine ⟨nk (by rw [e1]; rfl) hgo, fu (xs := ([] : List av)) p.pages e1 (l6 h.n rfl (h.f11 rfl)) (h.g11 rfl rfl) rfl rfl (l6 h.n rfl h.x18) rfl (by simp only [List.length_nil]; omega) (by simp only [List.length_nil]; omega) (fun v => ?_)⟩
   rw [e2]
   exact ⟨b2, b3, b6, b7, b10, true, true, b15, b16, b17, a, b, c, d, va, vb, v, rfl, h.step14 (ne h.q14 rfl) v⟩
  ·-- the whole
   have e1 := hop2 (i := 13) hi (by rw [ho]; rfl)
   have e2 := hdst hi (by rw [hq]; rfl)
   have e3 := hdep hi (by rw [hd]; rfl)
   obtain rfl : b15 = false := Option.some.inj hoff
   obtain rfl : b2 = true := Option.some.inj (hdeps 2 (by rw [e3]; simp))
   obtain rfl : b6 = true := Option.some.inj (hdeps 6 (by rw [e3]; simp))
   obtain rfl : b10 = true := Option.some.inj (hdeps 10 (by rw [e3]; simp))
   obtain rfl : b14 = true := Option.some.inj (hdeps 14 (by rw [e3]; simp))
   refine ⟨nk (by rw [e1]; rfl) hgo, EStep.mono (SStep.e (D := fun _ => True) (NStep.s (je (cs := [lst p.text, .own a va p.firsts.length, .own b vb p.seconds.length, .own c vc p.pages.length]) (parts := [(0, .tmp 7), (1, .tmp 11), (2, .tmp 15), (3, .tmp 19)]) e1 ?_))) fun st' hst' => ?_⟩
   ·show re _ _ [(0, st.at 7), (1, st.at 11), (2, st.at 15), (3, st.at 19)] = _
    rw [l6 h.n rfl (h.f2 rfl), l6 h.n rfl (h.f6 rfl), l6 h.n rfl (h.f10 rfl), l6 h.n rfl (h.f14 rfl)]
    rfl
   subst hst'
   rw [e2]
   exact ⟨true, b3, true, b7, true, b11, true, true, b16, b17, a, b, c, d, va, vb, vc, rfl, h.step15⟩
  ·have e1 := hop2 (i := 14) hi (by rw [ho]; rfl)
   have e2 := hdst hi (by rw [hq]; rfl)
   obtain rfl : b16 = false := Option.some.inj hoff
   refine ⟨nk (by rw [e1]; rfl) hgo, eb (cs := [.list [] .nil, .list [] .nil, .list [] .nil, .list [] .nil]) e1 ?_⟩
   rw [e2]
   exact ⟨b2, b3, b6, b7, b10, b11, b14, b15, true, b17, a, b, c, st.nx, va, vb, vc, rfl, h.step16 (ne h.e17 rfl)⟩
  have e1 := hop2 (i := 15) hi (by rw [ho]; rfl)
  have e2 := hdst hi (by rw [hq]; rfl)
  have e3 := hdep hi (by rw [hd]; rfl)
  obtain rfl : b17 = false := Option.some.inj hoff
  obtain rfl : b15 = true := Option.some.inj (hdeps 15 (by rw [e3]; simp))
  obtain rfl : b16 = true := Option.some.inj (hdeps 16 (by rw [e3]; simp))
  refine ⟨nk (by rw [e1]; rfl) hgo, dj (new := [lst p.text, .own a va p.firsts.length, .own b vb p.seconds.length, .own c vc p.pages.length]) e1 e2 (l6 h.n rfl (h.f16 rfl)) (h.g16 rfl rfl) (by rw [show evC st (.tmp 20) = _ from l6 h.n rfl (h.f15 rfl)]; rfl) rfl rfl ?_⟩
  exact ⟨b2, b3, b6, b7, b10, b11, b14, true, true, true, a, b, c, d, va, vb, vc, rfl, h.step17⟩
 ·rintro l st ⟨b2, b3, b6, b7, b10, b11, b14, b15, b16, b17, a, b, c, d, va, vb, vc, rfl, h⟩ hall
  rw [hlen] at hall
  obtain rfl : b2 = true := Option.some.inj (hall 2 (by omega))
  obtain rfl : b3 = true := Option.some.inj (hall 3 (by omega))
  obtain rfl : b6 = true := Option.some.inj (hall 6 (by omega))
  obtain rfl : b7 = true := Option.some.inj (hall 7 (by omega))
  obtain rfl : b10 = true := Option.some.inj (hall 10 (by omega))
  obtain rfl : b11 = true := Option.some.inj (hall 11 (by omega))
  obtain rfl : b14 = true := Option.some.inj (hall 14 (by omega))
  obtain rfl : b15 = true := Option.some.inj (hall 15 (by omega))
  obtain rfl : b16 = true := Option.some.inj (hall 16 (by omega))
  obtain rfl : b17 = true := Option.some.inj (hall 17 (by omega))
  exact hK st a b c d va vb vc h
 refine ⟨false, false, false, false, false, false, false, false, false, false, 0, 0, 0, 0, 0, 0, 0, rfl, ?_⟩
 exact { n := hn, df := rfl, l := rfl, nx := rfl, s := fun _ _ => rfl, x10 := h10, x14 := h14, x18 := h18, x6 := h6, f2 := (fun e => nomatch e), f3 := (fun e => nomatch e), r3 := (fun e => nomatch e), g3 := (fun e => nomatch e), f6 := (fun e => nomatch e), g6 := (fun e => nomatch e), f7 := (fun e => nomatch e), r7 := (fun e => nomatch e), g7 := (fun e => nomatch e), f10 := (fun e => nomatch e), g10 := (fun e => nomatch e), f11 := (fun e => nomatch e), r11 := (fun e => nomatch e), g11 := (fun e => nomatch e), f14 := (fun e => nomatch e), g14 := (fun e => nomatch e), f15 := (fun e => nomatch e), f16 := (fun e => nomatch e), r16 := (fun e => nomatch e), g16 := (fun e => nomatch e), f17 := (fun e => nomatch e), ab := (fun e => nomatch e), ac := (fun e => nomatch e), ad := (fun e => nomatch e), bc := (fun e => nomatch e), bd := (fun e => nomatch e), cd := (fun e => nomatch e), G := fun _ _ _ _ _ => rfl, e6 := (fun e => nomatch e), e10 := (fun e => nomatch e), e14 := (fun e => nomatch e), e17 := (fun e => nomatch e), e18 := (fun e => nomatch e), q2 := (fun e => nomatch e), q6 := (fun e => nomatch e), q10 := (fun e => nomatch e), q14 := (fun e => nomatch e) }
theorem ubk {cs : List C} {i : Nat} {c c0 : C} (h : cs[i]? = some c0) : (putAt cs i [c])[i]? = some c := by
 show (cs.set i c)[i]? = some c
 rw [List.getElem?_set_self (List.getElem?_eq_some_iff.1 h).1]
theorem uif {l : List av} {k : Nat} {x : av} (h : l[k]? = some x) : (ct l)[k * 6 + 4]? = some (lst x.found) ∧ (ct l)[k * 6 + 5]? = some (lst x.well) := by
 have h1 : (ct l)[k * Enc.n av + 4]? = some (lst x.found) := em h rfl
 have h2 : (ct l)[k * Enc.n av + 5]? = some (lst x.well) := em h rfl
 exact ⟨h1, h2⟩
set_option maxHeartbeats 2000000 in
theorem uh1 (p : aq) (hg : nl p = false) : Pure Tryd.prog 7 [val p] (val p) := by
 refine cz Tryd.func7 rfl (fun m => (fa _ _)) fun G nx => ?_
 simp only [Tryd.ntmps7, List.length_cons, List.length_nil, Nat.reduceAdd, Nat.reduceSub]
 refine ci fun hlt => ?_
 dsimp only at hlt
 obtain ⟨g1, g2, g3, g4, g5⟩ := yu hg
 refine yS fun _ K1 => ?_
 refine yR ?_
 try dsimp only [St.put]
 refine yB rfl rfl rfl ?_
 try dsimp only [St.put]
 refine aj rfl (eb rfl ?_)
 refine yN ?_
 dsimp only [St.put]
 refine K1 _ ?_
 refine ck 4 ?_
 refine zQ ?_
 refine ues (X := Nat × Nat × Nat × Nat × Nat × Nat × Nat) (fun y => (nx + 1 ≤ y.1 ∧ nx + 1 ≤ y.2.1 ∧ nx + 1 ≤ y.2.2.1 ∧ nx + 1 ≤ y.2.2.2.1) ∧ (y.1 < nx + 5 ∧ y.2.1 < nx + 5 ∧ y.2.2.1 < nx + 5 ∧ y.2.2.2.1 < nx + 5) ∧ (y.1 ≠ y.2.1 ∧ y.1 ≠ y.2.2.1 ∧ y.1 ≠ y.2.2.2.1 ∧ y.2.1 ≠ y.2.2.1 ∧ y.2.1 ≠ y.2.2.2.1 ∧ y.2.2.1 ≠ y.2.2.2.1)) (fun y => [(3, .box y.2.2.2.1 0 0)]) (fun y G' => (ai (ai (ai (ai (ai G nx (.box 0 [.list [] .nil, .list [] .nil, .list [] .nil, .list [] .nil])) y.1 (.arr y.2.2.2.2.1 0 71 2 p.firsts.length (ct p.firsts))) y.2.1 (.arr y.2.2.2.2.2.1 0 71 2 p.seconds.length (ct p.seconds))) y.2.2.1 (.arr y.2.2.2.2.2.2 (0) 69 6 p.pages.length (ct p.pages))) y.2.2.2.1 (.box 1 [lst p.text, .own y.1 y.2.2.2.2.1 p.firsts.length, .own y.2.1 y.2.2.2.2.2.1 p.seconds.length, .own y.2.2.1 y.2.2.2.2.2.2 p.pages.length]))) (fun _ => nx + 5) rfl ?_ ?_ ?_ ?_ ?_
 ·rintro ⟨a, b, q, d, va, vb, vq⟩ hI
  dsimp only at hI ⊢
  omega
 ·rintro ⟨a, b, q, d, va, vb, vq⟩ hI
  dsimp only at hI ⊢
  obtain ⟨⟨i1, i2, i3, i4⟩, ⟨j1, j2, j3, j4⟩, k1, k2, k3, k4, k5, k6⟩ := hI
  exact zL
 ·rintro ⟨a, b, q, d, va, vb, vq⟩ hI
  dsimp only at hI ⊢
  obtain ⟨⟨i1, i2, i3, i4⟩, ⟨j1, j2, j3, j4⟩, k1, k2, k3, k4, k5, k6⟩ := hI
  exact zH
 ·refine pn [(0, none), (1, none), (4, none), (5, none), (8, none), (9, none), (12, none), (13, none)] (fun _ => false) (fun i => [0, 4, 8, 12].contains i) 10 (rl [2, 2, 2, 2, 2, 2, 2, 4]) (by kernel_rfl) (by kernel_rfl) ?_
  refine ae rfl rfl rfl rfl (bw rfl rfl rfl) ?_
  try dsimp only [St.put]
  refine ah rfl rfl rfl rfl (c := fj p.text) (jc (cs := cells p) rfl rfl (show 1 ≤ 4 by decide)) ?_
  refine ae rfl rfl rfl rfl (bw rfl rfl rfl) ?_
  try dsimp only [St.put]
  refine ah rfl rfl rfl rfl (bf rfl rfl) ?_
  refine ae rfl rfl rfl rfl (bw rfl rfl rfl) ?_
  try dsimp only [St.put]
  refine ah rfl rfl rfl rfl (bf rfl rfl) ?_
  refine ae rfl rfl rfl rfl (bw rfl rfl rfl) ?_
  try dsimp only [St.put]
  refine ah rfl rfl rfl rfl (bf rfl rfl) ?_
  refine cc ?_
  refine uf0 p hg _ rfl (by kernel_rfl) (by simp) rfl rfl rfl rfl rfl rfl rfl rfl fun st a b q d va vb vq h => ?_
  have hnx : st.nx = (nx + 1) + true.toNat + true.toNat + true.toNat + true.toNat := h.nx
  simp only [Bool.toNat_true] at hnx
  have r1 : nx + 1 ≤ a ∧ a < st.nx := h.r3 rfl
  have r2 : nx + 1 ≤ b ∧ b < st.nx := h.r7 rfl
  have r3 : nx + 1 ≤ q ∧ q < st.nx := h.r11 rfl
  have r4 : nx + 1 ≤ d ∧ d < st.nx := h.r16 rfl
  have t1 : a < nx + 5 := by omega
  have t2 : b < nx + 5 := by omega
  have t3 : q < nx + 5 := by omega
  have t4 : d < nx + 5 := by omega
  refine ⟨(a, b, q, d, va, vb, vq), ⟨⟨r1.1, r2.1, r3.1, r4.1⟩, ⟨t1, t2, t3, t4⟩, h.ab rfl rfl, h.ac rfl rfl, h.ad rfl rfl, h.bc rfl rfl, h.bd rfl rfl, h.cd rfl rfl⟩, ⟨h.n, h.df⟩, ⟨.inr (h.s 0 rfl), .inr (h.s 1 rfl), .inr (h.s 2 rfl), .inr (h.f16 rfl), trivial⟩, .inl rfl, by dsimp only; omega, ?_⟩
  refine r9 (h.f17 rfl) (r9 (h.g14 rfl) (r9 (h.g10 rfl) (r9 (h.g6 rfl) ?_)))
  intro m o hm
  have hml : m < nx + 1 := by
   by_cases e : m = nx
   ·omega
   rw [dc e] at hm
   have := hlt m o hm
   omega
  exact (h.G m (fun _ => by omega) (fun _ => by omega) (fun _ => by omega) (fun _ => by omega)).trans hm
 rintro ⟨a, b, q, d, va, vb, vq⟩ hI
 dsimp only at hI ⊢
 obtain ⟨⟨i1, i2, i3, i4⟩, ⟨j1, j2, j3, j4⟩, k1, k2, k3, k4, k5, k6⟩ := hI
 refine yS fun _ K3 => ?_
 refine yS fun _ K4 => ?_
 refine yR ?_
 refine yA rfl rfl ?_
 refine yN ?_
 dsimp only [St.put]
 refine K4 _ ?_
 refine az ?_
 refine ck 5 ?_
 refine zQ ?_
 refine c6 ((ai (ai (ai (ai (ai G nx (.box 0 [.list [] .nil, .list [] .nil, .list [] .nil, .list [] .nil])) a (.arr va 0 71 2 p.firsts.length (ct p.firsts))) b (.arr vb 0 71 2 p.seconds.length (ct p.seconds))) q (.arr vq (0) 69 6 p.pages.length (ct p.pages))) d (.box 1 [lst p.text, .own a va p.firsts.length, .own b vb p.seconds.length, .own q vq p.pages.length]))) zX ?_
 dsimp only
 refine c5 (X := Nat) (fun k => k ≤ p.pages.length) (fun k => p.pages.length - k) (fun k => [(4, .v (.int .i64 (k : Int)))]) (fun k G' => (ai (ai (ai (ai (ai G nx (.box 0 [.list [] .nil, .list [] .nil, .list [] .nil, .list [] .nil])) a (.arr va 0 71 2 p.firsts.length (ct p.firsts))) b (.arr vb 0 71 2 p.seconds.length (ct p.seconds))) q (.arr vq ((2 * k)) 69 6 p.pages.length (ct p.pages))) d (.box 1 [lst p.text, .own a va p.firsts.length, .own b vb p.seconds.length, .own q vq p.pages.length]))) 0 rfl ?_ ?_ ?_ ?_ ?_ ?_
 ·exact Nat.zero_le _
 ·exact zF
 ·exact zX
 ·rintro k hI
  exact zL
 ·rintro k hI
  exact zH
 rintro k hI
 dsimp only at hI ⊢
 refine yS fun _ K5 => ?_
 refine yS fun _ K6 => ?_
 refine yR ?_
 refine yM rfl rfl ?_
 refine aa rfl (cv rfl rfl) ?_
 try dsimp only [St.put]
 refine af rfl (c7 rfl rfl zG trivial (by first | rfl | assumption)) ?_
 refine aa rfl (oh rfl rfl) ?_
 refine aa rfl (cj rfl rfl rfl) ?_
 refine yN ?_
 dsimp only [St.put]
 refine K6 _ ?_
 refine ar rfl (fun hc => ?_) (fun hc => ?_)
 ·replace hc := of_decide_eq_true hc
  have hkl : k < p.pages.length := by omega
  obtain ⟨x, hx⟩ : ∃ x, p.pages[k]? = some x := da hkl
  obtain ⟨hc4, hc5⟩ := uif hx
  have hxl := g5 x (fq hx)
  refine ax ?_
  refine K5 _ ?_
  refine yS fun _ K7 => ?_
  refine az ?_
  refine yS fun _ K8 => ?_
  refine fm [(0, none), (1, none), (2, none), (4, none), (5, none), (6, none), (7, none), (8, none), (9, none), (3, none), (10, none), (11, none), (12, none), (13, none)] (fun i => [13].contains i) (fun i => [3, 10, 13].contains i) (fun i => [0, 2, 4, 6, 7, 8, 11, 12].contains i) [d, q] (by kernel_rfl) (by kernel_rfl) ?_
  refine ae rfl rfl rfl rfl (cv rfl rfl) ?_
  try dsimp only [St.put]
  refine ah rfl rfl rfl rfl (c7 rfl rfl zG (by simp) (by first | rfl | assumption)) ?_
  refine xM rfl rfl rfl rfl rfl ?_
  refine ae rfl rfl rfl rfl (cv rfl rfl) ?_
  try dsimp only [St.put]
  refine ah rfl rfl rfl rfl (c7 rfl rfl zG (by simp) (by first | rfl | assumption)) ?_
  refine xM rfl rfl rfl rfl rfl ?_
  try dsimp only [St.put]
  refine ae rfl rfl rfl rfl (mq rfl rfl zG rfl rfl hkl) ?_
  refine ae rfl rfl rfl rfl (cv rfl rfl) ?_
  try dsimp only [St.put]
  refine ah rfl rfl rfl rfl (co rfl rfl zG (by simp) hc4) ?_
  refine il ?_
  try dsimp only [St.put]
  refine ib rfl rfl rfl (jn rfl (by decide) ⟨zD, ?_⟩)
  try dsimp only [St.put]
  refine ib rfl rfl rfl (fu (xs := ([] : List PlaceD)) x.found rfl rfl zG rfl rfl rfl rfl zA zA (fun w1 => ⟨zD, ?_⟩))
  try dsimp only [St.put]
  refine ep rfl rfl rfl rfl (mq rfl rfl zG rfl rfl hkl) ?_
  refine ep rfl rfl rfl rfl (cv rfl rfl) ?_
  try dsimp only [St.put]
  refine fy rfl rfl rfl rfl (y6 (sz := 1) rfl rfl rfl zG rfl rfl (by rw [tj]; show k * 6 + 4 + 1 ≤ p.pages.length * 6; omega) (by decide) ?_)
  refine ij ?_
  dsimp only [St.put]
  refine K8 _ ?_
  refine uet q (k * 6 + 4) x.found zG (ubk hc4) zG (by omega) rfl rfl rfl ?_
  rw [ubj hc4]
  refine fm [(0, none), (1, none), (2, none), (4, none), (5, none), (6, none), (7, none), (8, none), (9, none), (3, none), (10, none), (11, none), (12, none), (13, none)] (fun i => [13].contains i) (fun i => [3, 10, 13].contains i) (fun i => [0, 2, 4, 6, 7, 8, 11, 12].contains i) [d, q] (by kernel_rfl) (by kernel_rfl) ?_
  refine ae rfl rfl rfl rfl (cv rfl rfl) ?_
  try dsimp only [St.put]
  refine ah rfl rfl rfl rfl (c7 rfl rfl zG (by simp) (by first | rfl | assumption)) ?_
  refine xM rfl rfl rfl rfl rfl ?_
  refine ae rfl rfl rfl rfl (cv rfl rfl) ?_
  try dsimp only [St.put]
  refine ah rfl rfl rfl rfl (c7 rfl rfl zG (by simp) (by first | rfl | assumption)) ?_
  refine xM rfl rfl rfl rfl rfl ?_
  try dsimp only [St.put]
  refine ae rfl rfl rfl rfl (mq rfl rfl zG rfl rfl hkl) ?_
  refine ae rfl rfl rfl rfl (cv rfl rfl) ?_
  try dsimp only [St.put]
  refine ah rfl rfl rfl rfl (co rfl rfl zG (by simp) hc5) ?_
  refine il ?_
  try dsimp only [St.put]
  refine ib rfl rfl rfl (jn rfl (by decide) ⟨zD, ?_⟩)
  try dsimp only [St.put]
  refine ib rfl rfl rfl (fu (xs := ([] : List PlaceD)) x.well rfl rfl zG rfl rfl rfl rfl zA zA (fun w2 => ⟨zD, ?_⟩))
  try dsimp only [St.put]
  refine ep rfl rfl rfl rfl (mq rfl rfl zG rfl rfl hkl) ?_
  refine ep rfl rfl rfl rfl (cv rfl rfl) ?_
  try dsimp only [St.put]
  refine fy rfl rfl rfl rfl (y6 (sz := 1) rfl rfl rfl zG rfl rfl (by rw [tj]; show k * 6 + 5 + 1 ≤ p.pages.length * 6; omega) (by decide) ?_)
  refine ij ?_
  dsimp only [St.put]
  refine K7 _ ?_
  refine uet q (k * 6 + 5) x.well zG (ubk hc5) zG (by omega) rfl rfl rfl ?_
  rw [ubj hc5]
  refine yR ?_
  refine yM rfl rfl ?_
  refine aa rfl (bu rfl rfl rfl (by omega)) ?_
  refine yA rfl rfl ?_
  refine yN ?_
  dsimp only [St.put]
  exact ⟨k + 1, by omega, by omega, ⟨⟨rfl, rfl⟩, zF, zB, zN, zX⟩⟩
 replace hc := of_decide_eq_false hc
 refine po d 1 p.firsts zG rfl zG (by omega) rfl rfl rfl ?_
 refine po d 2 p.seconds zG rfl zG (by omega) rfl rfl rfl ?_
 refine po d 3 p.pages zG rfl zG (by omega) rfl rfl rfl ?_
 dsimp only [List.set_cons_zero, List.set_cons_succ]
 refine cw ?_
 refine K3 _ ?_
 refine yS fun _ K9 => ?_
 refine yR ?_
 try dsimp only [St.put]
 refine af rfl (d7 rfl rfl zG trivial (by rfl)) ?_
 try dsimp only [St.put]
 refine aj rfl (dj rfl rfl rfl zG rfl rfl (by rfl) ?_)
 refine yN ?_
 dsimp only [St.put]
 refine K9 _ ?_
 refine aw ?_
 refine lg rfl (mo rfl zG (by rfl) zC rfl) zN zS ?_
 exact zW
end Go.Proofs.YtgffhbbcpgdjjaaDoor
namespace Go.Proofs.YtgffhbbcpgdjjaaDoor
set_option maxRecDepth 10000
open Go Go.RowKit Go.AB
open Go.AB.Enc (cells)
open Go.PB (ay ak PlaceD bi bk bj bz av aq cy cx dp dm)
theorem ult (p : aq) (m : Int) (h : p.pages.length ≤ 12) : (ji p m).length ≤ 1000 := by
 have := umb (ii p m) p.pages.length
 unfold ji atE
 cases decide (jj p m = 0)
 ·exact Nat.zero_le _
 show (qe (ii p m) p.pages.length).length ≤ 1000
 omega
set_option maxHeartbeats 2000000 in
theorem uls (p : aq) (m : Int) : n3 0 m8 Tryd.prog 4 [val p, .v (.int .i64 m)] (.v (.bool true)) := fun G nx hF hnx => by
 refine oe (G) (nx) Tryd.func4 rfl (.v) zN (fun hlt => zH) ?_
 simp only [Tryd.ntmps4, List.length_cons, List.length_nil, Nat.reduceAdd, Nat.reduceSub]
 refine ci fun hlt => ?_
 dsimp only at hlt
 refine yS fun _ K1 => ?_
 refine yR ?_
 try dsimp only [St.put]
 refine yB rfl rfl rfl ?_
 refine yA rfl rfl ?_
 refine yN ?_
 dsimp only [St.put]
 refine K1 _ ?_
 refine yS fun _ K2 => ?_
 refine yS fun _ K3 => ?_
 refine yR ?_
 refine yE rfl rfl rfl ?_
 try dsimp only [St.put]
 refine aj rfl (bq rfl rfl rfl (uh5 p) ?_)
 refine yN ?_
 dsimp only [St.put]
 refine K3 _ ?_
 refine ar rfl (fun hc => ?_) (fun hc => ?_)
 ·skip
  refine yS fun _ K4 => ?_
  refine yR ?_
  refine yA rfl rfl ?_
  refine yN ?_
  dsimp only [St.put]
  refine K4 _ ?_
  refine aw ?_
  refine bg rfl (by constructor) zN zS ?_
  rfl
 have hg : nl p = false := hc
 obtain ⟨g1, g2, g3, g4, g5⟩ := yu hg
 have hwl := ult p m g4
 refine ax ?_
 refine K2 _ ?_
 refine yS fun _ K5 => ?_
 refine yR ?_
 refine yE rfl rfl rfl ?_
 try dsimp only [St.put]
 refine aj rfl (bq rfl rfl rfl (uh1 p hg) ?_)
 try dsimp only [St.put]
 refine aj rfl (eb rfl ?_)
 try dsimp only [St.put]
 refine aj rfl (dj rfl rfl rfl zG rfl rfl (by rfl) ?_)
 refine yN ?_
 dsimp only [St.put]
 refine K5 _ ?_
 refine gt (i := 5) rfl zG zC ?_
 dsimp only
 refine yS fun _ K6 => ?_
 refine yR ?_
 refine yE rfl rfl rfl ?_
 refine yM rfl rfl ?_
 try dsimp only [St.put]
 refine aj rfl ((rf rfl rfl rfl ((uit 0 p m)) zG (by dsimp only [St.put]; omega) ?_))
 refine yM rfl rfl ?_
 refine yX rfl rfl rfl rfl ?_
 refine yX rfl rfl rfl rfl ?_
 refine yA rfl rfl ?_
 refine yA rfl rfl ?_
 refine yN ?_
 dsimp only [St.put]
 refine K6 _ ?_
 refine yS fun _ K7 => ?_
 refine yR ?_
 refine yE rfl rfl rfl ?_
 refine yM rfl rfl ?_
 try dsimp only [St.put]
 refine aj rfl (bq rfl rfl rfl (uh6 p m) ?_)
 refine yM rfl rfl ?_
 refine yX rfl rfl rfl rfl ?_
 refine yX rfl rfl rfl rfl ?_
 refine yA rfl rfl ?_
 refine yA rfl rfl ?_
 refine yN ?_
 dsimp only [St.put]
 refine K7 _ ?_
 refine yS fun _ K8 => ?_
 refine yR ?_
 refine yM rfl rfl ?_
 refine yM rfl rfl ?_
 try dsimp only [St.put]
 refine aj rfl (bq rfl rfl rfl (ukh _ hwl) ?_)
 refine yM rfl rfl ?_
 refine yM rfl rfl ?_
 refine yM rfl rfl ?_
 refine aa rfl ((ye (c := true) (lv rfl rfl rfl) (decide_eq_true rfl))) ?_
 refine aa rfl (cm rfl rfl (by constructor)) ?_
 refine yM rfl rfl ?_
 refine yE rfl rfl rfl ?_
 refine yE rfl rfl rfl ?_
 try dsimp only [St.put]
 refine aj rfl (bq rfl rfl rfl (uh2 p) ?_)
 refine aa rfl (cm rfl rfl (by constructor)) ?_
 refine yA rfl rfl ?_
 refine yN ?_
 dsimp only [St.put]
 refine K8 _ ?_
 refine aw ?_
 refine bg rfl (by constructor) zN zS ?_
 rfl
end Go.Proofs.YtgffhbbcpgdjjaaDoor
namespace Go.AB
open Go Go.RowKit Go.ChangeShapes Go.WideShapes
end Go.AB
namespace Go.Proofs.YtgffhbbcpgdjjaaDoor
set_option maxRecDepth 10000
open Go.ChangeShapes Go.WideShapes Go.ChangeAt Go.RowKit Go.AB
open Go.AB.Enc (cells)
open Go.PB (ay ak PlaceD bi bk bj)
instance : OpensE Tryd.prog 3 Int := .int (by kernel_rfl)
instance : OpensE Tryd.prog 9 ByteArray := .str (by kernel_rfl)
instance : OpensE Tryd.prog 118 (List ByteArray) := .slice (e := 9) (by kernel_rfl) (by decide)
instance : OpensE Tryd.prog 119 (List (List ByteArray)) := .slice (e := 118) (by kernel_rfl) (by decide)
instance : OpensE Tryd.prog 121 ay := .chap (tI := 3) (tL := 119) (by kernel_rfl)
instance : OpensE Tryd.prog 22 (List ay) := .slice (e := 121) (by kernel_rfl) (by decide)
theorem uf4 : jv Tryd.prog 24 [(0, 22, 1)] 1 = true := by kernel_rfl
instance : OpensE Tryd.prog 24 (List ay) := .one (e := 22) uf4
theorem uia : jv Tryd.prog 54 [(0, 3, 1), (1, 3, 1), (2, 3, 1)] 3 = true := by kernel_rfl
instance : OpensE Tryd.prog 54 PlaceD := .place (tI := 3) uia
theorem ul6 : Tryd.prog.underlying 4 = some .bool := by kernel_rfl
theorem ownZ : ownKnob Tryd.prog.godebug = none := by kernel_rfl
end Go.Proofs.YtgffhbbcpgdjjaaDoor
namespace Go.AB
open Go Go.RowKit Go.ChangeShapes Go.WideShapes
open Go.AB.Enc (cells)
open Go.PB (ay ak PlaceD bi bk bj bz av aq cy cx)
theorem OpensE.reader {P : Program} {t tI : TypeId} [oI : OpensE P tI Int] (h : jv P t [(0, tI, 1), (1, tI, 1)] 2 = true) : OpensE P t bz :=
 .struct (α := bz) h fun w cs hl hp => by
  obtain ⟨a, ha⟩ := hp (0, tI, 1) (by simp) Int inferInstance oI
  obtain ⟨b, hb⟩ := hp (1, tI, 1) (by simp) Int inferInstance oI
  match cs, hl with
  | [u, v], _ => exact ⟨⟨a, b⟩, Rs.cons (Rs.single_inv ha) hb⟩
theorem OpensE.page {P : Program} {t tI tL : TypeId} [oI : OpensE P tI Int] [oL : OpensE P tL (List PlaceD)] (h : jv P t [(0, tI, 1), (1, tI, 1), (2, tI, 1), (3, tI, 1), (4, tL, 1), (5, tL, 1)] 6 = true) : OpensE P t av :=
 .struct (α := av) h fun w cs hl hp => by
  obtain ⟨a, ha⟩ := hp (0, tI, 1) (by simp) Int inferInstance oI
  obtain ⟨b, hb⟩ := hp (1, tI, 1) (by simp) Int inferInstance oI
  obtain ⟨c, hc⟩ := hp (2, tI, 1) (by simp) Int inferInstance oI
  obtain ⟨d, hd⟩ := hp (3, tI, 1) (by simp) Int inferInstance oI
  obtain ⟨e, he⟩ := hp (4, tL, 1) (by simp) (List PlaceD) inferInstance oL
  obtain ⟨f, hf⟩ := hp (5, tL, 1) (by simp) (List PlaceD) inferInstance oL
  match cs, hl with
  | [u0, u1, u2, u3, u4, u5], _ => exact ⟨⟨a, b, c, d, e, f⟩, Rs.cons (Rs.single_inv ha) (Rs.cons (Rs.single_inv hb) (Rs.cons (Rs.single_inv hc) (Rs.cons (Rs.single_inv hd) (Rs.cons (Rs.single_inv he) hf))))⟩
theorem OpensE.proofs {P : Program} {t tT tR tP : TypeId} [oT : OpensE P tT (List ay)] [oR : OpensE P tR (List bz)] [oP : OpensE P tP (List av)] (h : jv P t [(0, tT, 1), (1, tR, 1), (2, tR, 1), (3, tP, 1)] 4 = true) : OpensE P t aq :=
 .struct (α := aq) h fun w cs hl hp => by
  obtain ⟨a, ha⟩ := hp (0, tT, 1) (by simp) (List ay) inferInstance oT
  obtain ⟨b, hb⟩ := hp (1, tR, 1) (by simp) (List bz) inferInstance oR
  obtain ⟨c, hc⟩ := hp (2, tR, 1) (by simp) (List bz) inferInstance oR
  obtain ⟨d, hd⟩ := hp (3, tP, 1) (by simp) (List av) inferInstance oP
  match cs, hl with
  | [u0, u1, u2, u3], _ => exact ⟨⟨a, b, c, d⟩, Rs.cons (Rs.single_inv ha) (Rs.cons (Rs.single_inv hb) (Rs.cons (Rs.single_inv hc) hd))⟩
end Go.AB
namespace Go.AB
open Go Go.RowKit Go.ChangeShapes Go.WideShapes
open Go.AB.Enc (cells)
open Go.PB (ay ak PlaceD bz av aq cy cx)
def udd (P : Program) (t : TypeId) : Bool := match P.underlying t with | some (.func _ _ _) => true | _ => false
theorem yy {P : Program} {t : TypeId} (h : udd P t = true) : ∃ ps rs va, P.underlying t = some (.func ps rs va) := by
 unfold udd at h
 split at h
 ·rename_i ps rs va he; exact ⟨ps, rs, va, he⟩
 ·cases h
/-- Functions that lie in a variable's cells. -/
theorem uk7 {W : World} {b : Nat} {cs : List C} (hne : cs ≠ []) (hone : ∀ c ∈ cs, c.one = true) (us : Nat → Value) (hc : ∀ j, j < cs.length → W.cell? ⟨b, j, none⟩ = some (us j)) (hr : ∀ j c, cs[j]? = some c → R (j7 W) W c (us j)) : R (j7 W) W (.elem cs) (.pointer (some ⟨b, 0, none⟩)) := by
 have hl : 0 < cs.length := List.length_pos_iff.2 hne
 refine .elem hne hone (.inr ⟨b, 0, rfl, ?_, fun j hj => by rw [Nat.zero_add]; exact hc j hj⟩) hr
 have := ued (hc (cs.length - 1) (by omega))
 show 0 + cs.length ≤ qd W b
 omega
theorem ukf {P : Program} {f : FuncId} {cs : List C} {v gv : Value} {gc : C} (hp : n3 0 (.fact gv gc) P f cs (.v v)) {w : World} {args : List Value} (hK : R (j7 w) w gc gv) (hr : Rs (j7 w) w cs args) :
  Calls P f args.toArray w fun e w' => e = .returned v ∧ Below w.heap.size w w' :=
 ukg (fun G nx hG => by
  intro E w' as' hrs hsg
  exact hp G nx hG (by obtain ⟨t, _⟩ := hsg.obj 0 _ hG; have := hsg.lt 0 _ t; rw [hsg.nx] at this; exact this) E w' as' hrs hsg) hK hr
/-- a cell of a function's type, as it reads -/
theorem ra {P : Program} {W : World} {t : TypeId} {ps rs : Array TypeId} {va : Bool} {v : Value} {b : UInt8} {r : List UInt8} {f0 : FuncId} (hu : P.underlying t = some (.func ps rs va)) (hv : IsFunc v) (hd : veil (funcToken P) t v = .held (b :: r))
  (hone : ((List.range P.funcs.size).filter fun f => (P.funcs[f]?).any (·.name.toUTF8.data.toList == b :: r)) = [f0]) : v = .func (.func f0) #[] #[] :=
 Go.func_of_trod (w := W) (base := 0) (sp := fun _ => true) (fuel := 1) (q := []) hu hone (by
  have := trod_func (enc := funcToken P) hu (W := W) (base := 0) (sp := fun _ => true) hv 0
  rw [hd] at this
  exact this)
end Go.AB
namespace Go.Proofs.YtgffhbbcpgdjjaaDoor
set_option maxRecDepth 10000
open Go.ChangeShapes Go.WideShapes Go.ChangeAt Go.RowKit Go.AB
open Go.AB.Enc (cells)
open Go.PB (ay ak PlaceD bz av aq cy cx)
instance : OpensE Tryd.prog 71 bz := .reader (tI := 3) (by kernel_rfl)
instance : OpensE Tryd.prog 25 (List bz) := .slice (e := 71) (by kernel_rfl) (by decide)
instance : OpensE Tryd.prog 36 (List PlaceD) := .slice (e := 54) (by kernel_rfl) (by decide)
instance : OpensE Tryd.prog 69 av := .page (tI := 3) (tL := 36) (by kernel_rfl)
instance : OpensE Tryd.prog 26 (List av) := .slice (e := 69) (by kernel_rfl) (by decide)
theorem ubm : jv Tryd.prog 28 [(0, 24, 1), (1, 25, 1), (2, 25, 1), (3, 26, 1)] 4 = true := by kernel_rfl
instance : OpensE Tryd.prog 28 aq := .proofs (tT := 24) (tR := 25) (tP := 26) ubm
theorem gSides : Tryd.prog.globalNamed "postil/proof.sides" = some 0 := by kernel_rfl
theorem tSides : (Tryd.prog.globals[0]?).map (·.type) = some 92 := by kernel_rfl
theorem ufy : Tryd.prog.underlying 92 = some (.array 2 91) := by kernel_rfl
theorem ul2 : Tryd.prog.cellsOf 92 = 6 := by kernel_rfl
theorem uee : Tryd.prog.cellsOf 91 = 3 := by kernel_rfl
theorem ua0 : jv Tryd.prog 91 [(0, 87, 1), (1, 88, 1), (2, 89, 1)] 3 = true := by kernel_rfl
theorem udm : ∃ ps rs va, Tryd.prog.underlying 87 = some (.func ps rs va) := yy (by kernel_rfl)
theorem udo : ∃ ps rs va, Tryd.prog.underlying 88 = some (.func ps rs va) := yy (by kernel_rfl)
theorem udn : ∃ ps rs va, Tryd.prog.underlying 89 = some (.func ps rs va) := yy (by kernel_rfl)
theorem uav {W : World} {m : Nat} {cs : List Value} {y : DataW (List UInt8) × List MemPlace} {d0 d1 d2 : DataW (List UInt8)} (hy : y.1 = .agg [d0, d1, d2])
  (h : DataW.trod (funcToken Tryd.prog) Tryd.prog W 0 (fun _ => true) true m 91 cs = some y) : ∃ v0 v1 v2, cs = [v0, v1, v2] ∧ (IsFunc v0 ∧ veil (funcToken Tryd.prog) 87 v0 = d0) ∧ (IsFunc v1 ∧ veil (funcToken Tryd.prog) 88 v1 = d1) ∧ (IsFunc v2 ∧ veil (funcToken Tryd.prog) 89 v2 = d2) := by
 obtain ⟨_, fs, he⟩ := uf ua0
 obtain ⟨xs, m', _, e1, hl, hlen, hf⟩ := DataW.trod_struct he h
 rw [uee] at hl
 have hfs : fs.toList.map (fun f => (f.offset, f.type, Tryd.prog.cellsOf f.type)) = [(0, 87, 1), (1, 88, 1), (2, 89, 1)] := by
  have := ua0
  unfold jv at this
  rw [he] at this
  simp only [Bool.and_eq_true, beq_iff_eq] at this
  exact this.1
 obtain ⟨l⟩ := fs
 match l, hfs with
 | [f0, f1, f2], hfs =>
  simp only [List.map_cons, List.map_nil, List.cons.injEq, Prod.mk.injEq, and_true] at hfs
  obtain ⟨⟨a1, a2, a3⟩, ⟨b1, b2, b3⟩, ⟨c1, c2, c3⟩⟩ := hfs
  have h0 := hf 0 f0 rfl
  have h1 := hf 1 f1 rfl
  have h2 := hf 2 f2 rfl
  match cs, hl with
  | [u0, u1, u2], _ =>
   match xs, hlen with
   | [x0, x1, x2], _ =>
    subst e1
    simp only [List.map_cons, List.map_nil, DataW.agg.injEq, List.cons.injEq, and_true] at hy
    rw [a3, a1, a2] at h0
    rw [b3, b1, b2] at h1
    rw [c3, c1, c2] at h2
    obtain ⟨ps, rs, va, hu⟩ := udm
    obtain ⟨ps', rs', va', hu'⟩ := udo
    obtain ⟨ps2, rs2, va2, hu2⟩ := udn
    obtain ⟨v0, q0, q1, q2⟩ := Go.RowKit.func_of_trod hu h0
    obtain ⟨v1, q3, q4, q5⟩ := Go.RowKit.func_of_trod hu' h1
    obtain ⟨v2, q6, q7, q8⟩ := Go.RowKit.func_of_trod hu2 h2
    have e0 : u0 = v0 := by simpa using q0
    have e1 : u1 = v1 := by simpa using q3
    have e2 : u2 = v2 := by simpa using q6
    subst e0; subst e1; subst e2
    have hx0 : x0 = (veil (funcToken Tryd.prog) 87 u0, []) := by simpa using q2
    have hx1 : x1 = (veil (funcToken Tryd.prog) 88 u1, []) := by simpa using q5
    have hx2 : x2 = (veil (funcToken Tryd.prog) 89 u2, []) := by simpa using q8
    subst hx0; subst hx1; subst hx2
    obtain ⟨k0, k1, k2⟩ := hy
    exact ⟨u0, u1, u2, rfl, ⟨q1, k0⟩, ⟨q4, k1⟩, ⟨q7, k2⟩⟩
 | [], hfs => exact absurd hfs (by simp)
 | [_], hfs => exact absurd hfs (by simp)
 | [_, _], hfs => exact absurd hfs (by simp)
 | _ :: _ :: _ :: _ :: _, hfs => exact absurd hfs (by simp)
theorem ugo {W : World} (h : funcsAt Tryd.prog W "postil/proof.sides" (.agg [.agg [.iface "func" (.lit (.string [112, 111, 115, 116, 105, 108, 47, 112, 114, 111, 111, 102, 46, 115, 105, 100, 101, 115, 36, 49])), .iface "func" (.lit (.string [112, 111, 115, 116, 105, 108, 47, 112, 114, 111, 111, 102, 46, 115, 105, 100, 101, 115, 36, 50])), .iface "func" (.lit (.string [112, 111, 115, 116, 105, 108, 47, 112, 114, 111, 111, 102, 46, 115, 105, 100, 101, 115, 36, 51]))], .agg [.iface "func" (.lit (.string [112, 111, 115, 116, 105, 108, 47, 112, 114, 111, 111, 102, 46, 115, 105, 100, 101, 115, 36, 52])), .iface "func" (.lit (.string [112, 111, 115, 116, 105, 108, 47, 112, 114, 111, 111, 102, 46, 115, 105, 100, 101, 115, 36, 53])), .iface "func" (.lit (.string [112, 111, 115, 116, 105, 108, 47, 112, 114, 111, 111, 102, 46, 115, 105, 100, 101, 115, 36, 54]))]])) : R (j7 W) W (.elem sidL) (.pointer (some ⟨0, 0, none⟩)) := by
 obtain ⟨g, t, cs, fuel, p, hg, ht, hv, hd⟩ := h
 obtain rfl := Option.some.inj (gSides.symm.trans hg)
 obtain rfl := Option.some.inj (tSides.symm.trans ht)
 obtain ⟨xs, m, _, e1, hl, hn, hel⟩ := DataW.trod_array ufy hd
 rw [ul2] at hl
 rw [uee] at hel
 have hcell := fun i => World.var?_cell hg hv i
 obtain ⟨l⟩ := cs
 dsimp only at hl hel hcell
 match l, hl with
 | [u0, u1, u2, u3, u4, u5], _ =>
  match xs, hn with
  | [x0, x1], _ =>
   simp only [Prod.mk.injEq] at e1
   have e2 : (.agg [.agg [.held [112, 111, 115, 116, 105, 108, 47, 112, 114, 111, 111, 102, 46, 115, 105, 100, 101, 115, 36, 49], .held [112, 111, 115, 116, 105, 108, 47, 112, 114, 111, 111, 102, 46, 115, 105, 100, 101, 115, 36, 50], .held [112, 111, 115, 116, 105, 108, 47, 112, 114, 111, 111, 102, 46, 115, 105, 100, 101, 115, 36, 51]], .agg [.held [112, 111, 115, 116, 105, 108, 47, 112, 114, 111, 111, 102, 46, 115, 105, 100, 101, 115, 36, 52], .held [112, 111, 115, 116, 105, 108, 47, 112, 114, 111, 111, 102, 46, 115, 105, 100, 101, 115, 36, 53], .held [112, 111, 115, 116, 105, 108, 47, 112, 114, 111, 111, 102, 46, 115, 105, 100, 101, 115, 36, 54]]] : DataW (List UInt8)) = .agg [x0.1, x1.1] := e1.1
   simp only [DataW.agg.injEq, List.cons.injEq, and_true] at e2
   obtain ⟨a0, a1, a2, q0, ⟨a3, a4⟩, ⟨a5, a6⟩, ⟨a7, a8⟩⟩ := uav e2.1.symm (hel 0 (by omega))
   obtain ⟨b0, b1, b2, q1, ⟨b3, b4⟩, ⟨b5, b6⟩, ⟨b7, b8⟩⟩ := uav e2.2.symm (hel 1 (by omega))
   simp only [Nat.zero_mul, Nat.one_mul, List.drop_zero, List.drop_succ_cons, List.take_succ_cons, List.take_zero, List.cons.injEq, and_true] at q0 q1
   obtain ⟨rfl, rfl, rfl⟩ := q0
   obtain ⟨rfl, rfl, rfl⟩ := q1
   obtain ⟨ps, rs, va, hu⟩ := udm
   obtain ⟨ps', rs', va', hu'⟩ := udo
   obtain ⟨ps2, rs2, va2, hu2⟩ := udn
   obtain rfl := ra (W := W) (f0 := 145) hu a3 a4 (by kernel_rfl)
   obtain rfl := ra (W := W) (f0 := 146) hu' a5 a6 (by kernel_rfl)
   obtain rfl := ra (W := W) (f0 := 147) hu2 a7 a8 (by kernel_rfl)
   obtain rfl := ra (W := W) (f0 := 148) hu b3 b4 (by kernel_rfl)
   obtain rfl := ra (W := W) (f0 := 149) hu' b5 b6 (by kernel_rfl)
   obtain rfl := ra (W := W) (f0 := 150) hu2 b7 b8 (by kernel_rfl)
   let L : List Value := [.func (.func 145) #[] #[], .func (.func 146) #[] #[], .func (.func 147) #[] #[], .func (.func 148) #[] #[], .func (.func 149) #[] #[], .func (.func 150) #[] #[]]
   refine uk7 (by simp [sidL, qm]) (by intro c hc; simp only [sidL, qm, List.cons_append, List.nil_append, List.mem_cons, List.not_mem_nil, or_false] at hc; rcases hc with rfl | rfl | rfl | rfl | rfl | rfl <;> rfl) (fun j => L.getD j undef) (fun j hj => ?_) (fun j c hc => ?_)
   ·have := hcell j
    have hj' : j < 6 := hj
    rw [this]
    show (L.toArray)[j]? = _
    rw [List.getElem?_toArray, List.getD_eq_getElem?_getD, List.getElem?_eq_getElem (show j < L.length from hj')]
    rfl
   ·match j, hc with
    | 0, hc => cases hc; exact Rs.fn (vs := []) Rs.nil
    | 1, hc => cases hc; exact Rs.fn (vs := []) Rs.nil
    | 2, hc => cases hc; exact Rs.fn (vs := []) Rs.nil
    | 3, hc => cases hc; exact Rs.fn (vs := []) Rs.nil
    | 4, hc => cases hc; exact Rs.fn (vs := []) Rs.nil
    | 5, hc => cases hc; exact Rs.fn (vs := []) Rs.nil
abbrev ta : List (String × DataW Unit) := [("postil/proof.sides", Rows.laid_postil_proof_sides)]
set_option maxRecDepth 100000 in
/-- The door's own heap meets the condition. -/
theorem uli (os : Os) (args : Array Value) : laidMetH Tryd.prog ta ((World.doorLaid Tryd.prog 600 os).forCall (fun _ _ => 0) ⟨#[], args, []⟩).memory :=
 laidMetH_of_parts3 (fuel := 8) (laidMet_of_run' 8 (by kernel_rfl) (by kernel_rfl)) (by kernel_rfl) (by kernel_rfl)
theorem ugn {W : World} (h : laidMetH Tryd.prog ta W) : R (j7 W) W (.elem sidL) (.pointer (some ⟨0, 0, none⟩)) := ugo (h.funcs (List.mem_cons_self ..))
end Go.Proofs.YtgffhbbcpgdjjaaDoor
namespace Go.AB
open Go Go.RowKit Go.ChangeShapes Go.WideShapes
open Go.AB.Enc (cells)
end Go.AB
namespace Go.Proofs.YtgffhbbcpgdjjaaDoor
set_option maxRecDepth 10000
open Go.ChangeShapes Go.WideShapes Go.ChangeAt Go.RowKit Go.AB
open Go.AB.Enc (cells)
theorem ukk : td Tryd.prog 3 .i64 = true := by kernel_rfl
end Go.Proofs.YtgffhbbcpgdjjaaDoor
namespace Go.AB
open Go Go.RowKit Go.ChangeShapes Go.WideShapes
section
variable {H : Type} {enc : TypeId × Value → H} {P : Program} {w : World} {base : Nat} {spare : Nat → Bool} {held : Bool}
end
end Go.AB
