/-
  What the walks through the program rest on: values, states, steps, calls (RcAny, AbNew, AbEntry, HdKeys, RcAdd, RiWithout, AbFact, RdOpen, AbFW, RfLefts, QnRef, QrRef, ReAsk, RjRests, QoRef).
-/
import Derived.Test.YtbbdginipiljdaaDoorPartC
import Derived.Test.YtbbdginipiljdaaDoorPartB
import Derived.WideKeyEntry
import Derived.Test.YtbbdginipiljdaaDoorPartA
namespace Go.AB
open Go Go.RowKit
section
variable {A0 : Nat → C} {c8 c9 c15 c16 c22 c23 : C} {G0 G1 G2 G3 : Nat → Option GObj} {nn df nx : Nat} {b8 b9 b15 b16 b22 b23 : Bool} {st : St}
theorem AdI.cong {x : List (Nat × C)} {g g' : Nat → Option GObj} (e : g = g') (h : AdI A0 c8 c9 c15 c16 c22 c23 G0 G1 G2 G3 nn df nx b8 b9 b15 b16 b22 b23 { st with r := x, G := g' }) : AdI A0 c8 c9 c15 c16 c22 c23 G0 G1 G2 G3 nn df nx b8 b9 b15 b16 b22 b23 { st with r := x, G := g } := by
 subst e; exact h
theorem AdI.step8 (h : AdI A0 c8 c9 c15 c16 c22 c23 G0 G1 G2 G3 nn df nx false b9 b15 b16 b22 b23 st) (k9 : b9 = false) (k16 : b16 = false) (k23 : b23 = false) : AdI A0 c8 c9 c15 c16 c22 c23 G0 G1 G2 G3 nn df nx true b9 b15 b16 b22 b23 { st with r := (109, c8) :: st.r } := by
 subst k9
 subst k16
 subst k23
 exact {
  n := h.n
  df := h.df
  nx := h.nx
  A := fun i => by
   show (bif Nat.beq 109 i then _ else bn st.l st.r i) = _
   rw [h.A i]
   cases e : Nat.beq 109 i
   ·simp only [adS, e, Bool.and_false, Bool.false_and, cond_false]
   ·rw [← Nat.eq_of_beq_eq_true e]
    cases b15 <;> cases b22 <;> rfl
  G := h.G
  e9 := fun _ => rfl
  e16 := fun e => nomatch e
  e23 := fun e => nomatch e }
theorem AdI.step9 (h : AdI A0 c8 c9 c15 c16 c22 c23 G0 G1 G2 G3 nn df nx true false b15 b16 b22 b23 st) (k16 : b16 = false) (k23 : b23 = false) : AdI A0 c8 c9 c15 c16 c22 c23 G0 G1 G2 G3 nn df nx true true b15 b16 b22 b23 { st with r := (110, c9) :: st.r, G := G1 } := by
 subst k16
 subst k23
 exact {
  n := h.n
  df := h.df
  nx := h.nx
  A := fun i => by
   show (bif Nat.beq 110 i then _ else bn st.l st.r i) = _
   rw [h.A i]
   cases e : Nat.beq 110 i
   ·simp only [adS, e, Bool.and_false, Bool.false_and, cond_false]
   ·rw [← Nat.eq_of_beq_eq_true e]
    cases b15 <;> cases b22 <;> rfl
  G := rfl
  e9 := fun _ => rfl
  e16 := fun e => nomatch e
  e23 := fun e => nomatch e }
theorem AdI.step15 (h : AdI A0 c8 c9 c15 c16 c22 c23 G0 G1 G2 G3 nn df nx b8 b9 false b16 b22 b23 st) (k16 : b16 = false) (k23 : b23 = false) : AdI A0 c8 c9 c15 c16 c22 c23 G0 G1 G2 G3 nn df nx b8 b9 true b16 b22 b23 { st with r := (116, c15) :: st.r } := by
 subst k16
 subst k23
 exact {
  n := h.n
  df := h.df
  nx := h.nx
  A := fun i => by
   show (bif Nat.beq 116 i then _ else bn st.l st.r i) = _
   rw [h.A i]
   cases e : Nat.beq 116 i
   ·simp only [adS, e, Bool.and_false, Bool.false_and, cond_false]
   ·rw [← Nat.eq_of_beq_eq_true e]
    cases b8 <;> cases b9 <;> cases b22 <;> rfl
  G := h.G
  e9 := h.e9
  e16 := fun e => nomatch e
  e23 := fun e => nomatch e }
theorem AdI.step16 (h : AdI A0 c8 c9 c15 c16 c22 c23 G0 G1 G2 G3 nn df nx true true true false b22 b23 st) (k23 : b23 = false) : AdI A0 c8 c9 c15 c16 c22 c23 G0 G1 G2 G3 nn df nx true true true true b22 b23 { st with r := (117, c16) :: st.r, G := G2 } := by
 subst k23
 exact {
  n := h.n
  df := h.df
  nx := h.nx
  A := fun i => by
   show (bif Nat.beq 117 i then _ else bn st.l st.r i) = _
   rw [h.A i]
   cases e : Nat.beq 117 i
   ·simp only [adS, e, Bool.and_false, Bool.false_and, cond_false]
   ·rw [← Nat.eq_of_beq_eq_true e]
    cases b22 <;> rfl
  G := rfl
  e9 := fun _ => rfl
  e16 := fun _ => ⟨rfl, rfl⟩
  e23 := fun e => nomatch e }
theorem AdI.step22 (h : AdI A0 c8 c9 c15 c16 c22 c23 G0 G1 G2 G3 nn df nx b8 b9 b15 b16 false b23 st) (k23 : b23 = false) : AdI A0 c8 c9 c15 c16 c22 c23 G0 G1 G2 G3 nn df nx b8 b9 b15 b16 true b23 { st with r := (123, c22) :: st.r } := by
 subst k23
 exact {
  n := h.n
  df := h.df
  nx := h.nx
  A := fun i => by
   show (bif Nat.beq 123 i then _ else bn st.l st.r i) = _
   rw [h.A i]
   cases e : Nat.beq 123 i
   ·simp only [adS, e, Bool.and_false, Bool.false_and, cond_false]
   ·rw [← Nat.eq_of_beq_eq_true e]
    cases b8 <;> cases b9 <;> cases b15 <;> cases b16 <;> rfl
  G := h.G
  e9 := h.e9
  e16 := h.e16
  e23 := fun e => nomatch e }
theorem AdI.step23 (h : AdI A0 c8 c9 c15 c16 c22 c23 G0 G1 G2 G3 nn df nx true true true true true false st)  : AdI A0 c8 c9 c15 c16 c22 c23 G0 G1 G2 G3 nn df nx true true true true true true { st with r := (124, c23) :: st.r, G := G3 } := by
 exact {
  n := h.n
  df := h.df
  nx := h.nx
  A := fun i => by
   show (bif Nat.beq 124 i then _ else bn st.l st.r i) = _
   rw [h.A i]
   cases e : Nat.beq 124 i
   ·simp only [adS, e, Bool.and_false, Bool.false_and, cond_false]
   ·rw [← Nat.eq_of_beq_eq_true e]
    rfl
  G := rfl
  e9 := fun _ => rfl
  e16 := fun _ => ⟨rfl, rfl⟩
  e23 := fun _ => ⟨rfl, rfl⟩ }
end
/-- the flags, as the list of what came up -/
def adL (b8 b9 b15 b16 b22 b23 : Bool) : List Bool := [true, true, true, true, true, true, true, true, b8, b9, true, true, true, true, true, b15, b16, true, true, true, true, true, b22, b23, false, false, false, false, false, false, false, false, false]
theorem w4 {a b : Bool} (h : a = true → b = true) (hb : b = false) : a = false := by
 cases a
 ·rfl
 ·rw [h rfl] at hb; cases hb
theorem se {ops : Array Oper} {st : St} {o : Oper} (h1 : sb o.op = false) (h2 : o.guard = none) : et ops st o = some true := by
 unfold et uv
 rw [h1, h2]; rfl
theorem pd {st : St} {i n : Nat} {c : C} (hn : st.n = n) (hi : Nat.blt i n = true) (h : bn st.l st.r i = c) : st.at i = c := by
 unfold St.at
 rw [hn, hi]; exact h
end Go.AB
namespace Go.Proofs.YtbbdginipiljdaaDoor
set_option maxRecDepth 10000
open Go Go.RowKit Go.AB
open Go.AB.Enc (cells)
open Go.PB (PlaceD)
set_option maxHeartbeats 1000000 in
theorem ugr (ws : List Int) (al bo : List (List PlaceD)) (w : Int) (fo bt : List PlaceD) (nB a1 a2 a3 : Nat) {ob : GObj} {ol : List Oper} {K : St → Prop} {late : Nat → Bool} (st0 : St) (hlen : ol.length = 33) (hf : ux ol = true) (hgd : (ol.all fun o => o.guard.isNone) = true)
  (hdp : (qe ol 9 8 && qe ol 16 15 && qe ol 16 9 && qe ol 23 22 && qe ol 23 16 && (List.range 9).all fun i => qe ol (24 + i) 23) = true)
  (q8 : (ol[8]?).map (fun o => (o.op, o.dst)) = some (.buildSlice 57 1 #[(0, .tmp 108)], some 109)) (q9 : (ol[9]?).map (fun o => (o.op, o.dst)) = some (.call { callee := .builtin .append, args := #[.tmp 107, .tmp 109], argTypes := #[57, 57] }, some 110))
  (q15 : (ol[15]?).map (fun o => (o.op, o.dst)) = some (.buildSlice 52 1 #[(0, .tmp 115)], some 116)) (q16 : (ol[16]?).map (fun o => (o.op, o.dst)) = some (.call { callee := .builtin .append, args := #[.tmp 114, .tmp 116], argTypes := #[52, 52] }, some 117))
  (q22 : (ol[22]?).map (fun o => (o.op, o.dst)) = some (.buildSlice 52 1 #[(0, .tmp 122)], some 123)) (q23 : (ol[23]?).map (fun o => (o.op, o.dst)) = some (.call { callee := .builtin .append, args := #[.tmp 121, .tmp 123], argTypes := #[52, 52] }, some 124))
  (hn : st0.n = 131) (h107 : bn st0.l st0.r 107 = .list (ws.map cells) (.tip a1)) (h108 : bn st0.l st0.r 108 = .v (.int .i64 w)) (h114 : bn st0.l st0.r 114 = .list (al.map cells) (.tip a2)) (h115 : bn st0.l st0.r 115 = lst fo) (h121 : bn st0.l st0.r 121 = .list (bo.map cells) (.tip a3)) (h122 : bn st0.l st0.r 122 = lst bt)
  (hB : st0.G nB = some ob) (hG1 : st0.G a1 = some (.tip ws.length 3 1)) (hG2 : st0.G a2 = some (.tip al.length 36 1)) (hG3 : st0.G a3 = some (.tip bo.length 36 1))
  (d1 : nB ≠ a1) (d2 : nB ≠ a2) (d3 : nB ≠ a3) (d4 : a1 ≠ a2) (d5 : a1 ≠ a3) (d6 : a2 ≠ a3) (lw : ws.length ≤ 100) (la : al.length ≤ 100) (lb : bo.length ≤ 100)
  (hK : li Tryd.prog ol K [nB] late false 9 (adL true true true true true true) { st0 with r := (124, .list ((bo ++ [bt]).map cells) (.tip a3)) :: (123, .list [[lst bt]] .none) :: (117, .list ((al ++ [fo]).map cells) (.tip a2)) :: (116, .list [[lst fo]] .none) :: (110, .list ((ws ++ [w]).map cells) (.tip a1)) :: (109, .list [[.v (.int .i64 w)]] .none) :: st0.r, G := ak (ak (ak st0.G a1 (.tip (ws ++ [w]).length 3 1)) a2 (.tip (al ++ [fo]).length 36 1)) a3 (.tip (bo ++ [bt]).length 36 1) }) :
  li Tryd.prog ol K [nB] late false 15 (adL false false false false false false) st0 := by
 have hop : ∀ {i : Nat} {o : Oper} {q : Op} {d : Option Tmp}, ol[i]? = some o → (ol[i]?).map (fun o => (o.op, o.dst)) = some (q, d) → o.op = q ∧ o.dst = d := fun {i o q d} h k => by
  rw [h] at k
  simp only [Option.map_some, Option.some.injEq, Prod.mk.injEq] at k
  exact k
 simp only [Bool.and_eq_true, List.all_eq_true, List.mem_range] at hdp
 obtain ⟨⟨⟨⟨⟨p1, p2⟩, p3⟩, p4⟩, p5⟩, p6⟩ := hdp
 obtain ⟨G1, hG1'⟩ : ∃ G1, ak st0.G a1 (.tip (ws ++ [w]).length 3 1) = G1 := ⟨_, rfl⟩
 obtain ⟨G2, hG2'⟩ : ∃ G2, ak G1 a2 (.tip (al ++ [fo]).length 36 1) = G2 := ⟨_, rfl⟩
 obtain ⟨G3, hG3'⟩ : ∃ G3, ak G2 a3 (.tip (bo ++ [bt]).length 36 1) = G3 := ⟨_, rfl⟩
 rw [hG1', hG2', hG3'] at hK
 have k1 : G1 a2 = some (.tip al.length 36 1) := by rw [← hG1', cy d4.symm]; exact hG2
 have k2 : G2 a3 = some (.tip bo.length 36 1) := by rw [← hG2', cy d6.symm, ← hG1', cy d5.symm]; exact hG3
 have m1 : G1 nB = some ob := by rw [← hG1', cy d1]; exact hB
 have m2 : G2 nB = some ob := by rw [← hG2', cy d2]; exact m1
 have m3 : G3 nB = some ob := by rw [← hG3', cy d3]; exact m2
 have mB : ∀ b9 b16 b23, adG st0.G G1 G2 G3 b9 b16 b23 nB = some ob := fun b9 b16 b23 => by
  cases b23 <;> cases b16 <;> cases b9 <;> assumption
 refine uo2 (fun l st => ∃ b8 b9 b15 b16 b22 b23, l = adL b8 b9 b15 b16 b22 b23 ∧ AdI (bn st0.l st0.r) (.list [[.v (.int .i64 w)]] .none) (.list ((ws ++ [w]).map cells) (.tip a1)) (.list [[lst fo]] .none) (.list ((al ++ [fo]).map cells) (.tip a2)) (.list [[lst bt]] .none) (.list ((bo ++ [bt]).map cells) (.tip a3)) st0.G G1 G2 G3 131 st0.df st0.nx b8 b9 b15 b16 b22 b23 st) (fun l => (l[23]?).getD false) hf ?_ ?_ ?_ ?_ 15 _ st0 ?_ rfl
 ·rintro l st ⟨b8, b9, b15, b16, b22, b23, rfl, h⟩
  rw [hlen]; rfl
 ·rintro l st ⟨b8, b9, b15, b16, b22, b23, rfl, h⟩ hall
  rw [hlen] at hall
  have := hall 23 (by omega)
  show ((adL b8 b9 b15 b16 b22 b23)[23]?).getD false = true
  rw [this]; rfl
 ·rintro l st i o ⟨b8, b9, b15, b16, b22, b23, rfl, h⟩ hst hi hoff hdeps
  have hb23 : b23 = false := hst
  subst hb23
  have hlt := (List.getElem?_eq_some_iff.1 hi).1
  rw [hlen] at hlt
  have hgo : o.guard = none := by
   have := List.all_eq_true.1 hgd o (List.mem_of_getElem? hi)
   simpa using this
  have hsB := h.G ▸ mB b9 b16 false
  have hcase : (i = 8 ∨ i = 9 ∨ i = 15 ∨ i = 16 ∨ i = 22 ∨ i = 23) ∨ 24 ≤ i ∨ i = 0 ∨ i = 1 ∨ i = 2 ∨ i = 3 ∨ i = 4 ∨ i = 5 ∨ i = 6 ∨ i = 7 ∨ i = 10 ∨ i = 11 ∨ i = 12 ∨ i = 13 ∨ i = 14 ∨ i = 17 ∨ i = 18 ∨ i = 19 ∨ i = 20 ∨ i = 21 := by omega
  rcases hcase with (rfl | rfl | rfl | rfl | rfl | rfl) | h24 | rfl | rfl | rfl | rfl | rfl | rfl | rfl | rfl | rfl | rfl | rfl | rfl | rfl | rfl | rfl | rfl | rfl | rfl
  ·obtain ⟨e1, e2⟩ := hop hi q8
   obtain rfl : b8 = false := Option.some.inj hoff
   refine ⟨se (by rw [e1]; rfl) hgo, du (rows := [[.v (.int .i64 w)]]) (parts := [(0, .tmp 108)]) e1 rfl ?_ (by decide) (by decide) (by simp) (by decide) ?_⟩
   ·show ov [(0, st.at 108)] = _
    rw [pd (c := .v (.int .i64 w)) h.n rfl (by rw [h.A]; cases b9 <;> cases b15 <;> cases b16 <;> cases b22 <;> exact h108)]; rfl
   ·rw [e2]
    exact ⟨ro hsB hsB, true, b9, b15, b16, b22, false, rfl, h.step8 (w4 h.e9 rfl) (w4 (fun e => h.e9 (h.e16 e).2) rfl) rfl⟩
  ·obtain ⟨e1, e2⟩ := hop hi q9
   obtain rfl : b9 = false := Option.some.inj hoff
   obtain rfl : b8 = true := Option.some.inj (hdeps 8 (sk p1 hi))
   have hk16 : b16 = false := w4 (fun e => (h.e16 e).2) rfl
   subst hk16
   have hG := h.G
   refine ⟨se (by rw [e1]; rfl) hgo, jz [w] e1 (pd h.n rfl (by rw [h.A]; cases b15 <;> cases b22 <;> exact h107)) (by rw [hG]; exact hG1) rfl (pd (c := .list [[.v (.int .i64 w)]] .none) h.n rfl (by rw [h.A]; rfl)) rfl (by simp only [List.length_cons, List.length_nil]; omega) ?_ (by simp only [List.length_cons, List.length_nil]; omega)⟩
   rw [e2]
   have e3 : ak st.G a1 (.tip (ws ++ [w]).length 3 1) = G1 := by rw [hG]; exact hG1'
   refine ⟨ro hsB (by show ak st.G a1 _ nB = _; rw [cy d1]; exact hsB), true, true, b15, false, b22, false, rfl, ?_⟩
   exact (h.step9 rfl rfl).cong e3
  ·obtain ⟨e1, e2⟩ := hop hi q15
   obtain rfl : b15 = false := Option.some.inj hoff
   refine ⟨se (by rw [e1]; rfl) hgo, du (rows := [[lst fo]]) (parts := [(0, .tmp 115)]) e1 rfl ?_ (by decide) (by decide) (by simp) (by decide) ?_⟩
   ·show ov [(0, st.at 115)] = _
    rw [pd (c := lst fo) h.n rfl (by rw [h.A]; cases b8 <;> cases b9 <;> cases b16 <;> cases b22 <;> exact h115)]; rfl
   ·rw [e2]
    exact ⟨ro hsB hsB, b8, b9, true, b16, b22, false, rfl, h.step15 (w4 (fun e => (h.e16 e).1) rfl) rfl⟩
  ·obtain ⟨e1, e2⟩ := hop hi q16
   obtain rfl : b16 = false := Option.some.inj hoff
   obtain rfl : b15 = true := Option.some.inj (hdeps 15 (sk p2 hi))
   obtain rfl : b9 = true := Option.some.inj (hdeps 9 (sk p3 hi))
   obtain rfl : b8 = true := h.e9 rfl
   have hG := h.G
   refine ⟨se (by rw [e1]; rfl) hgo, jz [fo] e1 (pd h.n rfl (by rw [h.A]; cases b22 <;> exact h114)) (by rw [hG]; exact k1) rfl (pd (c := .list [[lst fo]] .none) h.n rfl (by rw [h.A]; rfl)) rfl (by simp only [List.length_cons, List.length_nil]; omega) ?_ (by simp only [List.length_cons, List.length_nil]; omega)⟩
   rw [e2]
   have e3 : ak st.G a2 (.tip (al ++ [fo]).length 36 1) = G2 := by rw [hG]; exact hG2'
   refine ⟨ro hsB (by show ak st.G a2 _ nB = _; rw [cy d2]; exact hsB), true, true, true, true, b22, false, rfl, ?_⟩
   exact (h.step16 rfl).cong e3
  ·obtain ⟨e1, e2⟩ := hop hi q22
   obtain rfl : b22 = false := Option.some.inj hoff
   refine ⟨se (by rw [e1]; rfl) hgo, du (rows := [[lst bt]]) (parts := [(0, .tmp 122)]) e1 rfl ?_ (by decide) (by decide) (by simp) (by decide) ?_⟩
   ·show ov [(0, st.at 122)] = _
    rw [pd (c := lst bt) h.n rfl (by rw [h.A]; cases b8 <;> cases b9 <;> cases b15 <;> cases b16 <;> exact h122)]; rfl
   ·rw [e2]
    exact ⟨ro hsB hsB, b8, b9, b15, b16, true, false, rfl, h.step22 rfl⟩
  ·obtain ⟨e1, e2⟩ := hop hi q23
   obtain rfl : b22 = true := Option.some.inj (hdeps 22 (sk p4 hi))
   obtain rfl : b16 = true := Option.some.inj (hdeps 16 (sk p5 hi))
   obtain rfl : b15 = true := (h.e16 rfl).1
   obtain rfl : b9 = true := (h.e16 rfl).2
   obtain rfl : b8 = true := h.e9 rfl
   have hG := h.G
   refine ⟨se (by rw [e1]; rfl) hgo, jz [bt] e1 (pd h.n rfl (by rw [h.A]; exact h121)) (by rw [hG]; exact k2) rfl (pd (c := .list [[lst bt]] .none) h.n rfl (by rw [h.A]; rfl)) rfl (by simp only [List.length_cons, List.length_nil]; omega) ?_ (by simp only [List.length_cons, List.length_nil]; omega)⟩
   rw [e2]
   have e3 : ak st.G a3 (.tip (bo ++ [bt]).length 36 1) = G3 := by rw [hG]; exact hG3'
   refine ⟨ro hsB (by show ak st.G a3 _ nB = _; rw [cy d3]; exact hsB), true, true, true, true, true, true, rfl, ?_⟩
   exact (h.step23).cong e3
  ·have hm := hdeps 23 (sk (i := i) (by have := p6 (i - 24) (by omega); rwa [show 24 + (i - 24) = i by omega] at this) hi)
   cases hm
  all_goals (cases hoff)
 ·rintro l st ⟨b8, b9, b15, b16, b22, b23, rfl, h⟩ hst
  obtain rfl : b23 = true := hst
  obtain ⟨rfl, rfl⟩ := h.e23 rfl
  obtain ⟨rfl, rfl⟩ := h.e16 rfl
  obtain rfl := h.e9 rfl
  refine uo1 ?_ ?_ (fun i => ?_) ?_ ?_ hK
  ·exact h.n.trans hn.symm
  ·exact h.df
  rotate_left
  ·exact h.G
  ·exact h.nx
  rw [h.A i]
  unfold adS
  show (bif Nat.beq 109 i then _ else bif Nat.beq 110 i then _ else bif Nat.beq 116 i then _ else bif Nat.beq 117 i then _ else bif Nat.beq 123 i then _ else bif Nat.beq 124 i then _ else bn st0.l st0.r i) = (bif Nat.beq 124 i then _ else bif Nat.beq 123 i then _ else bif Nat.beq 117 i then _ else bif Nat.beq 116 i then _ else bif Nat.beq 110 i then _ else bif Nat.beq 109 i then _ else bn st0.l st0.r i)
  cases e1 : Nat.beq 109 i
  ·cases e2 : Nat.beq 110 i
   ·cases e3 : Nat.beq 116 i
    ·cases e4 : Nat.beq 117 i
     ·cases e5 : Nat.beq 123 i
      ·cases e6 : Nat.beq 124 i <;> rfl
      ·rw [ki e5 (b := 124) rfl]; rfl
     ·rw [ki e4 (b := 124) rfl, ki e4 (b := 123) rfl]; rfl
    ·rw [ki e3 (b := 124) rfl, ki e3 (b := 123) rfl, ki e3 (b := 117) rfl]; rfl
   ·rw [ki e2 (b := 124) rfl, ki e2 (b := 123) rfl, ki e2 (b := 117) rfl, ki e2 (b := 116) rfl]; rfl
  ·rw [ki e1 (b := 124) rfl, ki e1 (b := 123) rfl, ki e1 (b := 117) rfl, ki e1 (b := 116) rfl, ki e1 (b := 110) rfl]; rfl
 ·exact ⟨false, false, false, false, false, false, rfl, { n := hn, df := rfl, nx := rfl, A := fun _ => rfl, G := rfl, e9 := (fun e => nomatch e), e16 := (fun e => nomatch e), e23 := (fun e => nomatch e) }⟩
end Go.Proofs.YtbbdginipiljdaaDoor
namespace Go.AB
open Go Go.RowKit
open Go.AB.Enc (cells)
section
variable {P : Program} {o : Oper} {st : St} {K : St → Prop}
/-- append to a slice without room: a copy, owned. -/
theorem ufm {α : Type} [Enc α] {t e : TypeId} {bytes : Nat} [AppT P t e (Enc.n α) bytes] {s x : Operand} {tok tk : Tok} {rows : List (List C)} (ys : List α) (ho : o.op = .call { callee := .builtin .append, args := #[s, x], argTypes := #[t, t] }) (hs : evC st s = .list [] tok) (htok : tok = .zero ∨ tok = .nil) (hx : evC st x = .list rows tk) (hy : rows = ys.map cells) (hne : ys ≠ []) (hn : 1 ≤ Enc.n α) (hb : ys.length * bytes ≤ 140737488355328) (hm : ys.length ≤ 9223372036854775807)
  (h : K (St.put { st with G := ak st.G st.nx (.arr 0 0 e (Enc.n α) ys.length (cr ys)), nx := st.nx + 1 } o.dst (.own st.nx 0 ys.length))) : EStep P o st K :=
 kg fun E w a hsim => by
  subst hy
  obtain ⟨ht, i, z, hie, hz, h1, h2, h3⟩ := AppT.spec (P := P) (t := t) (e := e) (sz := Enc.n α) (bytes := bytes)
  obtain ⟨sa, cap, _, _, e1, _, _, _, _, _, _, _, z1, z2, _⟩ := (hs ▸ hsim.ev s).list_inv
  have hcap : cap = 0 := by
   rcases htok with h | h
   ·exact z2 h
   ·exact (z1 h).2
  subst hcap
  have hrl : (ys.map (cells (α := α))).length = ys.length := List.length_map _
  obtain ⟨ao, c, news, e2, hl, hnews, hr, hone, h1c⟩ := x7 (hx ▸ hsim.ev x) (mn ys)
  rw [hrl] at e2 hl hnews
  have hy0 : ys.length ≠ 0 := fun e => hne (List.eq_nil_of_length_eq_zero e)
  obtain ⟨ad, rfl, hcells⟩ := hnews.resolve_left hy0
  have hl2 : news.length = ys.length * i.size := by rw [hl, h1]
  have key : ∃ nc, (Builtin.append_ #[t, t] o.type #[.slice sa 0 0, .slice (some ad) ys.length c]).run P w = .ok (.slice (some ⟨w.heap.size, 0, none⟩) ys.length nc) (w.drew.alloc (.cells (news.toArray ++ Builtin.zeroCells z.cells (nc - ys.length)) e)) ∧ ys.length ≤ nc ∧ nc ≤ maxLen := by
   refine ⟨grownCap w (0 + ys.length) 0 e, ?_, ?_, ?_⟩
   ·cases sa with
    | none =>
     have := run_append_nil (P := P) w t o.type e i z ht hie hz ad ys.length c news hl2 hcells (by omega) (by omega) (by rw [h2]; omega)
     simpa using this
    | some a0 =>
     have := run_append_grow (P := P) w t o.type e i z ht hie hz a0 0 0 [] (by simp) (by simp) ad ys.length c news hl2 hcells (by omega) (by omega) (growslice_fits (by omega) (by rw [h2]; simpa using hb))
     simpa using this
   ·have := grownCap_ge w (0 + ys.length) 0 e; omega
   ·exact grownCap_le_maxLen w (0 + ys.length) 0 e (by unfold maxLen; omega)
  obtain ⟨nc, hrun, hnc, hnm⟩ := key
  obtain ⟨ob, hob⟩ : ∃ ob, ob = Obj.cells (news.toArray ++ Builtin.zeroCells z.cells (nc - ys.length)) e := ⟨_, rfl⟩
  rw [← hob] at hrun
  have hev := Ev.laid hsim.g (o := ob) 0 (.inr rfl)
  have hg := SimG.laid hsim.g (o := ob) 0 (.inr rfl)
  have hnew : (w.drew.alloc ob).heap[w.heap.size]? = some ob := sd w.drew ob
  have hsz : (w.drew.alloc ob).heap.size = w.heap.size + 1 := by simp
  have hold : ∀ n tt b, (E.lay w.heap.size 0).T n = some tt → blk tt.2.2 = some b → b < w.heap.size := fun n tt b h5 h6 => (hsim.g.tb n _ _ _ b h5 h6).2
  have hnx := hsim.g.nx
  have hfr : ∀ b o', blk (.slice (some ⟨w.heap.size, 0, none⟩) ys.length nc) = some b → w.heap[b]? = some o' → False := fun b o' hbk ho' => by
   simp only [blk, Option.some.injEq] at hbk
   subst hbk
   have := (Array.getElem?_eq_some_iff.1 ho').1
   omega
  have hev2 := hev.thenName (.slice (some ⟨w.heap.size, 0, none⟩) ys.length nc) hfr
  have hg2 := SimG.name hg (.slice (some ⟨w.heap.size, 0, none⟩) ys.length nc) (.arr 0 0 e (Enc.n α) ys.length (cr ys)) (fun b hbk => by
   simp only [blk, Option.some.injEq] at hbk
   subst hbk
   exact ⟨hsim.g.base, by rw [hsz]; omega, fun n tt h5 h6 => absurd (hold n tt _ h5 h6) (by omega)⟩) (by
   refine ⟨.slice (some ⟨w.heap.size, 0, none⟩) ys.length nc, news, ?_, ⟨hl, .inr ⟨w.heap.size, nc, _, rfl, hsim.g.base, hnew.trans (by rw [hob]), hnc, hnm, ?_, ?_⟩⟩, fun c hc => ?_, hr.ev hev2, fun b hbk => ?_, hn⟩
   ·simp [Env.name, Env.lay, hnx]
   ·simp only [Array.size_append, List.size_toArray, size_zeroCells, hl]
    rw [h3, ← Nat.add_mul]
    congr 1
    omega
   ·simp only [Array.toList_append]
    rw [List.take_append_of_le_length (by simp [hl]), List.take_of_length_le (by simp [hl])]
   ·obtain ⟨r, hr1, hr2⟩ := List.mem_flatten.1 hc
    exact hone r hr1 c hr2
   ·simp only [blk, Option.some.injEq] at hbk
    subst hbk
    simp [Env.name, Env.lay])
  refine ⟨.slice (some ⟨w.heap.size, 0, none⟩) ys.length nc, w.drew.alloc ob, _, _, _, .own st.nx 0 ys.length, ?_, hev2, ?_, hg2, h⟩
  ·simp only [execOp, ho, resolve, invoke, builtin, Sem.run_bind, Sem.run_pure, Result.andThen_ok, List.map_toArray, List.map_cons, List.map_nil, e1, e2]
   simp only [List.length_nil]
   rw [hrun]; rfl
  ·refine R.own (by simp [Env.name, Env.lay]; omega) hnc hnm fun ver wv val htt => ?_
   simp only [Env.name, Env.lay, hnx, if_true, Option.some.injEq, Prod.mk.injEq] at htt
   obtain ⟨rfl, rfl, rfl⟩ := htt
   exact ⟨Nat.le_refl _, fun _ => ⟨_, Nat.le_refl _, rfl⟩⟩
end
/-- A function that gives nothing back ends. -/
theorem ue9 {P : Program} {st : St} {fn : Func} {G : Nat → Option GObj} {nx : Nat} {e : Exit} (hf : fn.results = #[]) (he : e = .normal ∨ e = .ret) (hn : nx ≤ st.nx) (hG : ∀ n o, G n = some o → st.G n = some o) : pf P fn (.tup []) G nx e st := by
 have : ow P fn st (.tup []) := fun E w a _ => ⟨_, results_none hf _ _ _, R.undef E w⟩
 rcases he with rfl | rfl
 ·exact ⟨this, hn, hG⟩
 ·exact ⟨this, hn, hG⟩
end Go.AB
namespace Go.AB
open Go Go.RowKit
open Go.Maps (Keyed)
section
variable {P : Program} {k t e : TypeId} {w : World} {r : Nat} {es : Array MapEntry} {clock : Nat}
end
section
variable {P : Program} {o : Oper} {st : St} {K : St → Prop} {α : Type} [KeyV α]
end
/-- Three numbers. -/
instance : KeyV Go.PB.PlaceD where
 kv x := .agg #[.int .i64 x.ch, .int .i64 x.ln, .int .i64 x.wd]
 kc x := .agg [.v (.int .i64 x.ch), .v (.int .i64 x.ln), .v (.int .i64 x.wd)]
 inv h := by
  obtain ⟨vs, rfl, h1, _⟩ := h.agg_inv
  match vs, h1 with
  | [a, b, c], h1 =>
   have e1 := (h1.2 0 _ _ rfl rfl).v_inv
   have e2 := (h1.2 1 _ _ rfl rfl).v_inv
   have e3 := (h1.2 2 _ _ rfl rfl).v_inv
   subst e1; subst e2; subst e3; rfl
  | [], h => exact absurd h.1 (by simp)
  | [_], h => exact absurd h.1 (by simp)
  | [_, _], h => exact absurd h.1 (by simp)
  | _ :: _ :: _ :: _ :: _, h => exact absurd h.1 (by simp)
 inj h := by
  rename_i x y
  obtain ⟨a, b, c⟩ := x
  obtain ⟨d, e, f⟩ := y
  simpa using h
 any {E w x v} h E' w' := by
  obtain ⟨vs, rfl, h1, _⟩ := h.agg_inv
  match vs, h1 with
  | [a, b, c], h1 =>
   have e1 := h1.2 0 _ _ rfl rfl
   have e2 := h1.2 1 _ _ rfl rfl
   have e3 := h1.2 2 _ _ rfl rfl
   cases e1 with | v e1 =>
   cases e2 with | v e2 =>
   cases e3 with | v e3 =>
   exact (Rs.cons (.v e1) (Rs.cons (.v e2) (Rs.cons (.v e3) Rs.nil))).agg (by intro c hc; simp only [List.mem_cons, List.not_mem_nil, or_false] at hc; rcases hc with rfl | rfl | rfl <;> rfl)
  | [], h => exact absurd h.1 (by simp)
  | [_], h => exact absurd h.1 (by simp)
  | [_, _], h => exact absurd h.1 (by simp)
  | _ :: _ :: _ :: _ :: _, h => exact absurd h.1 (by simp)
end Go.AB
namespace Go.AB
open Go Go.RowKit
open Go.PB (av ai PlaceD az bf ba)
def uen (P : Program) (k u : TypeId) : Bool := match P.underlying k with
 | some (.struct fs) => (match fs.toList with
  | [a, b, c] => a.type == u && b.type == u && c.type == u && a.offset == 0 && b.offset == 1 && c.offset == 2 && fs.all (·.name != "_")
  | _ => false)
 | _ => false
theorem key3 {P : Program} {k u : TypeId} (h : uen P k u = true) (hu : P.underlying u = some (.int .i64)) (h3 : P.cellsOf k = 3) (h1 : P.cellsOf u = 1) (hk : P.keyType k = true) (hm : ∃ m, P.types.size = m + 3) {x y z : Int} (hx : (Lit.int .i64 x).wf = true) (hy : (Lit.int .i64 y).wf = true) (hz : (Lit.int .i64 z).wf = true) : ∃ l, keyOf P k (.agg #[.int .i64 x, .int .i64 y, .int .i64 z]) = some l := by
 obtain ⟨m, hm⟩ := hm
 unfold uen at h
 split at h
 ·rename_i fs hfs
  split at h
  ·rename_i a b c habc
   simp only [Bool.and_eq_true, beq_iff_eq] at h
   obtain ⟨⟨⟨⟨⟨⟨e1, e2⟩, e3⟩, e4⟩, e5⟩, e6⟩, e7⟩ := h
   have hf : (Value.agg #[.int .i64 x, .int .i64 y, .int .i64 z]).formed P k = true := by simp [Value.formed, hfs, h3]
   refine ⟨.string (keyBytes [.int .i64 x, .int .i64 y, .int .i64 z]), ?_⟩
   unfold keyOf
   rw [hfs]
   simp only [hk, hf, Bool.and_self, if_true]
   have hl : P.keyLits (P.types.size + 1) k (Value.agg #[.int .i64 x, .int .i64 y, .int .i64 z]).cells.toList = some [.int .i64 x, .int .i64 y, .int .i64 z] := by
    rw [hm]
    unfold Program.keyLits
    simp only [hfs, h3, h1, e1, e2, e3, e4, e5, e6, e7, habc, Value.cells]
    unfold Program.keyLits
    simp [hu, h1, e1, e2, e3, e4, e5, e6, hx, hy, hz]
   rw [hl]
   rfl
  ·cases h
 ·cases h
end Go.AB
namespace Go.Proofs.YtbbdginipiljdaaDoor
set_option maxRecDepth 10000
open Go Go.RowKit Go.AB
open Go.PB (av ai PlaceD az bf ba)
theorem ujw : Go.Maps.Keyed Tryd.prog 54 := Go.Maps.Keyed.of_law (deep_law_laid z8 (m := 2) (by omega) (of_decide_eq_true (by kernel_rfl)) (by kernel_rfl) (by kernel_rfl))
instance : KeyT Tryd.prog 54 PlaceD where
 keyed := ujw
 has {E w x v} h := by
  obtain ⟨vs, rfl, h1, _⟩ := R.agg_inv h
  match vs, h1 with
  | [a, b, c], h1 => exact key3 (u := 3) (by kernel_rfl) yh (by kernel_rfl) (by kernel_rfl) (by kernel_rfl) ulp (xc (xh (h1.2 0 _ _ rfl rfl))) (xc (xh (h1.2 1 _ _ rfl rfl))) (xc (xh (h1.2 2 _ _ rfl rfl)))
  | [], h => exact absurd h.1 (by simp)
  | [_], h => exact absurd h.1 (by simp)
  | [_, _], h => exact absurd h.1 (by simp)
  | _ :: _ :: _ :: _ :: _, h => exact absurd h.1 (by simp)
end Go.Proofs.YtbbdginipiljdaaDoor
namespace Go.AB
open Go Go.RowKit
open Go.AB.Enc (cells)
open Go.PB (av ai PlaceD az bf ba bl am af co bj dc dg)
/-- who is found, as a map -/
def gr (f : PlaceD → Bool) : PlaceD → Option C := fun q => bif f q then some (.v (.bool true)) else none
theorem uc8 (f : PlaceD → Bool) (q : PlaceD) : (gr f q).getD (pa (.bool false)) = .v (.bool (f q)) := by
 unfold gr
 cases f q <;> rfl
theorem ukv : gr (fun q => decide (q ∈ ([] : List PlaceD))) = fun _ => none := by funext q; simp [gr]
theorem ukw {F : List PlaceD} {k : Nat} {q : PlaceD} (h : F[k]? = some q) : kd (gr fun x => decide (x ∈ F.take k)) q (.v (.bool true)) = gr fun x => decide (x ∈ F.take (k + 1)) := by
 funext x
 unfold kd gr
 have hm : decide (x ∈ F.take (k + 1)) = (decide (x ∈ F.take k) || decide (x = q)) := by
  rw [List.take_add_one, h, Option.toList_some, Bool.eq_iff_iff]; simp
 dsimp only
 by_cases e : x = q
 ·rw [hm, decide_eq_true e, Bool.or_true, if_pos e]; rfl
 rw [hm, decide_eq_false e, Bool.or_false, if_neg e]
theorem uc7 {F W : List PlaceD} (hW : W.Nodup) {k : Nat} {q : PlaceD} (h : W[k]? = some q) (hq : q ∈ F) : qu (gr (gi F (W.take k))) q = gr (gi F (W.take (k + 1))) := by
 funext x
 unfold qu gr
 rw [uc9 hW h x]
 by_cases e : x = q
 ·rw [if_pos e, decide_eq_true e, decide_eq_true hq]; rfl
 rw [if_neg e, decide_eq_false e]; rfl
theorem uc6 {F W : List PlaceD} (hW : W.Nodup) {k : Nat} {q : PlaceD} (h : W[k]? = some q) (hq : q ∉ F) : kd (gr (gi F (W.take k))) q (.v (.bool true)) = gr (gi F (W.take (k + 1))) := by
 funext x
 unfold kd gr
 rw [uc9 hW h x]
 by_cases e : x = q
 ·rw [if_pos e, decide_eq_true e, decide_eq_false hq]; rfl
 rw [if_neg e, decide_eq_false e]; rfl
theorem onceM_ne {f : PlaceD → Bool} {q : PlaceD} : gr f q ≠ none ↔ f q = true := by
 unfold gr
 cases f q <;> simp
theorem zj {f : PlaceD → Bool} {q : PlaceD} {c : C} (h : gr f q = some c) : c = .v (.bool true) := by
 unfold gr at h
 cases hf : f q <;> rw [hf] at h
 ·cases h
 cases h; rfl
theorem ny (f : PlaceD → Bool) (n : Nat) : ∀ x c, gr f x = some c → C.low n c := fun x c h => by rw [zj h]; exact .v
def un (ks done : List PlaceD) : Nat := (ks.filter fun y => decide (y ∉ done)).length
theorem ud3 {ks done : List PlaceD} {y : PlaceD} (hy : y ∈ ks) (hn : y ∉ done) : un ks (done ++ [y]) < un ks done := by
 unfold un
 induction ks with
 | nil => cases hy
 | cons z ks ih =>
  have hle : (ks.filter fun y' => decide (y' ∉ done ++ [y])).length ≤ (ks.filter fun y' => decide (y' ∉ done)).length := by
   rw [← List.countP_eq_length_filter, ← List.countP_eq_length_filter]
   refine List.countP_mono_left fun a _ ha => ?_
   simp only [decide_eq_true_eq, List.mem_append, not_or] at ha ⊢
   exact ha.1
  by_cases e : z = y
  ·subst e
   rw [List.filter_cons_of_neg (by simp), List.filter_cons_of_pos (by simpa using hn)]
   simp only [List.length_cons]
   omega
  have hy' : y ∈ ks := by
   rcases List.mem_cons.1 hy with h | h
   ·exact absurd h.symm e
   exact h
  have := ih hy'
  by_cases hz : z ∈ done
  ·rw [List.filter_cons_of_neg (by simp [hz]), List.filter_cons_of_neg (by simp [hz])]
   exact this
  rw [List.filter_cons_of_pos (by simp [hz, e]), List.filter_cons_of_pos (by simp [hz])]
  simp only [List.length_cons]
  omega
theorem ufw {p : af} {x : am} {q : PlaceD} {k : Nat} {last : Int} (hp : ng p last x) (hB : d9 p.text x = []) (hq : x.well[k]? = some q) : q ∉ x.found := fun hf => by
 have : q ∈ d9 p.text x := by
  show q ∈ (gn p.text).filter _
  rw [List.mem_filter, Bool.and_eq_true, decide_eq_true_eq, decide_eq_true_eq, allQ_mem]
  exact ⟨(m4 hp.found hf).1, hf, List.mem_of_getElem? hq⟩
 rw [hB] at this; cases this
theorem uc2 {p : PlaceD → Prop} : Ord3 p mi := by
 have key : ∀ a b, mi a b < 0 ↔ ltW (c6 a) (c6 b) := fun a b => oe (by rfl)
 refine ⟨fun x _ => ?_, fun x y z _ _ _ h k => ?_, fun x y z _ _ _ h k => ?_⟩
 ·rw [key]; exact py _
 ·rw [key] at h k ⊢; exact r6 h k
 rw [key] at h k ⊢
 intro hxz
 by_cases h1 : ltW (c6 y) (c6 x)
 ·exact k (r6 h1 hxz)
 rw [zy (a := c6 x) (b := c6 y) rfl h h1] at hxz; exact k hxz
def PBd9 (q : PlaceD) : Prop := (0 ≤ q.ch ∧ q.ch ≤ 100000) ∧ (0 ≤ q.ln ∧ q.ln ≤ 100000) ∧ 0 ≤ q.wd ∧ q.wd ≤ 100000
theorem PBd9.plain {a : PlaceD} (h : PBd9 a) : Plain (cells a) := fun c hc => by
 obtain ⟨h1, h2, h3⟩ := h
 have hc' : c ∈ [C.v (.int .i64 a.ch), C.v (.int .i64 a.ln), C.v (.int .i64 a.wd)] := hc
 simp only [List.mem_cons, List.not_mem_nil, or_false] at hc'
 rcases hc' with rfl | rfl | rfl
 ·exact ⟨_, rfl, kr (by omega)⟩
 ·exact ⟨_, rfl, kr (by omega)⟩
 exact ⟨_, rfl, kr (by omega)⟩
theorem uco {t : ai} (ht : dv t = true) {q : PlaceD} (h : fy t q = true) : PBd9 q := by
 obtain ⟨l, hw, hw1, hw2⟩ := placeB_true.1 h
 have := vr ht hw
 exact ⟨by omega, by omega, by omega, by omega⟩
theorem uc4 {p : af} {x : am} {last : Int} (hp : ng p last x) {q : PlaceD} (h : gi x.found x.well q = true) : fy p.text q = true := by
 unfold gi at h
 by_cases h1 : q ∈ x.found
 ·exact (m4 hp.found h1).1
 by_cases h2 : q ∈ x.well
 ·exact (m4 hp.well h2).1
 simp [h1, h2] at h
theorem uc5 {p : af} {x : am} {last : Int} (hp : ng p last x) (ht : dv p.text = true) {done : List PlaceD} (h : ∀ q ∈ done, gi x.found x.well q = true) : ∀ q ∈ done, PBd9 q := fun q hq => uco ht (uc4 hp (h q hq))
theorem unz {p : af} {x : am} {last : Int} (_ : ng p last x) (ht : dv p.text = true) {q : PlaceD} (h : q ∈ d9 p.text x) : PBd9 q := by
 have : q ∈ (gn p.text).filter _ := h
 exact uco ht (allQ_mem.1 (List.mem_filter.1 this).1)
theorem wx {p : af} {x : am} {last : Int} (hp : ng p last x) {done : List PlaceD} (hn : done.Nodup) (h : ∀ q ∈ done, gi x.found x.well q = true) : done.length ≤ (gn p.text).length :=
 ude hn fun q hq => allQ_mem.2 (uc4 hp (h q hq))
section
variable {P : Program} {o : Oper} {st : St} {K : St → Prop}
/-- A slice that is nil is nil. -/
theorem um5 {t t' e : TypeId} [Elt P t e] {x : Operand} {rows : List (List C)} (ho : o.op = .binOp .eql t x (.const (.slice none 0 0)) t') (hx : evC st x = .list rows .nil) (h : K (st.put o.dst (.v (.bool true)))) : EStep P o st K :=
 kg fun E w a hsim => by
  have hr := hx ▸ hsim.ev x
  obtain ⟨ad, cap, _, _, hv, h1, _, _, _, _, _, h7, z1, _⟩ := R.list_inv hr
  obtain ⟨rfl, rfl⟩ := z1 rfl
  have q1 := Elt.spec (P := P) (t := t) (e := e)
  refine ⟨.bool true, w, E, st.G, st.nx, .v (.bool true), ?_, Ev.refl E w, .v rfl, hsim.g, h⟩
  have hq := run_equal_slice_nil (P := P) w t e none rows.length 0 q1
  have he2 : a.eval (.const (.slice none 0 0)) = .slice none 0 0 := rfl
  simp [execOp, ho, hv, he2, eqGuard, binOp, hq]
/-- .. one in which something is, is not. -/
theorem ufj {t t' e : TypeId} [Elt P t e] {x : Operand} {rows : List (List C)} {tok : Tok} (hne : rows ≠ []) (ho : o.op = .binOp .eql t x (.const (.slice none 0 0)) t') (hx : evC st x = .list rows tok) (h : K (st.put o.dst (.v (.bool false)))) : EStep P o st K :=
 ufk ho hx fun b hb => by rw [hb hne]; exact h
end
end Go.AB
namespace Go.Proofs.YtbbdginipiljdaaDoor
set_option maxRecDepth 10000
open Go Go.RowKit Go.AB
open Go.AB.Enc (cells)
open Go.PB (av ai PlaceD az bf ba bl am af co bj dc dg)
instance : Ty Tryd.prog (srt_Place_ren.t 24) true (Enc.n PlaceD) := inferInstanceAs (Ty Tryd.prog 54 true 3)
theorem unj : Pure Tryd.prog 97 [.list [] .nil] (.list [] .nil) := by
 refine c5 Tryd.func97 rfl (fun m => (.list (fun r hr => by cases hr) (fun k hk => by cases hk))) fun G nx => ?_
 simp only [Tryd.ntmps97, List.length_cons, List.length_nil, Nat.reduceAdd, Nat.reduceSub]
 refine bu fun hlt => ?_
 dsimp only at hlt
 refine yS fun _ K1 => ?_
 refine yR ?_
 refine yA rfl rfl ?_
 refine yN ?_
 dsimp only [St.put]
 refine K1 _ ?_
 refine yS fun _ K2 => ?_
 refine yS fun _ K3 => ?_
 refine yR ?_
 refine yM rfl rfl ?_
 refine ae rfl (um5 rfl rfl ?_)
 refine yN ?_
 dsimp only [St.put]
 refine K3 _ ?_
 refine ar rfl (fun hc => ?_) (fun hc => ?_)
 ·try replace hc := of_decide_eq_true hc
  refine yS fun _ K4 => ?_
  refine yR ?_
  refine yA rfl rfl ?_
  refine yN ?_
  dsimp only [St.put]
  refine K4 _ ?_
  refine aq ?_
  refine bh rfl (by constructor) zN zS ?_
  rfl
 try replace hc := of_decide_eq_false hc
 refine ax ?_
 refine K2 _ ?_
 refine yS fun _ K5 => ?_
 refine yR ?_
 try dsimp only [St.put]
 refine ae rfl (ve rfl ?_)
 refine yM rfl rfl ?_
 try dsimp only [St.put]
 refine ae rfl (xw rfl rfl (.inl rfl) rfl (show 1 ≤ 3 by decide) (fun r hr => by cases hr) (by simp) (by simp) ?_)
 refine yA rfl rfl ?_
 refine yN ?_
 dsimp only [St.put]
 refine K5 _ ?_
 refine aq ?_
 exact absurd hc (by decide)
theorem uni (l : List PlaceD) (hne : l ≠ []) (hl : l.length ≤ 1000) (G : Nat → Option GObj) (nx : Nat) : PC Tryd.prog 97 [lst l] G nx fun r G' nx' => r = .own nx 0 l.length ∧ G' = ak G nx (.arr 0 0 54 3 l.length (cr l)) ∧ nx' = nx + 1 := by
 refine iz (ak G nx (.arr 0 0 54 3 l.length (cr l))) (nx + 1) Tryd.func97 rfl (.own (Nat.lt_succ_self _)) zN (fun hlt => (by (repeat' (refine l4 ?_ (by (try dsimp only); omega) ?_)); all_goals (first | exact l5 zS | (repeat' (first | exact trivial | refine ⟨?_, ?_⟩ | exact .v | exact .any | refine .elem ?_ | exact br _ _ | exact fq _ _ | exact ei _ _ | exact f4 _ (by (try dsimp only); omega) | exact .box (by (try dsimp only); omega) | exact fk | exact dh | exact fa _ | refine f8 ?_ ?_ | exact .arr (by (try dsimp only); omega) | exact .own (by (try dsimp only); omega) | exact .map (by (try dsimp only); omega) | exact fa _ | refine ci ?_ ?_ | exact br _ _))))) ?_
 simp only [Tryd.ntmps97, List.length_cons, List.length_nil, Nat.reduceAdd, Nat.reduceSub]
 refine bu fun hlt => ?_
 dsimp only at hlt
 refine yS fun _ K1 => ?_
 refine yR ?_
 refine yA rfl rfl ?_
 refine yN ?_
 dsimp only [St.put]
 refine K1 _ ?_
 refine yS fun _ K2 => ?_
 refine yS fun _ K3 => ?_
 refine yR ?_
 refine yM rfl rfl ?_
 refine ae rfl (ufj (fun e => hne (by simpa using e)) rfl rfl ?_)
 refine yN ?_
 dsimp only [St.put]
 refine K3 _ ?_
 refine ar rfl (fun hc => ?_) (fun hc => ?_)
 ·try replace hc := of_decide_eq_true hc
  refine yS fun _ K4 => ?_
  refine yR ?_
  refine yA rfl rfl ?_
  refine yN ?_
  dsimp only [St.put]
  refine K4 _ ?_
  refine aq ?_
  exact absurd hc (by decide)
 try replace hc := of_decide_eq_false hc
 refine ax ?_
 refine K2 _ ?_
 refine yS fun _ K5 => ?_
 refine yR ?_
 try dsimp only [St.put]
 refine ae rfl (ve rfl ?_)
 refine yM rfl rfl ?_
 try dsimp only [St.put]
 refine ae rfl (ufm l rfl rfl (.inl rfl) rfl rfl hne (by decide) (by omega) (by omega) ?_)
 refine yA rfl rfl ?_
 refine yN ?_
 dsimp only [St.put]
 refine K5 _ ?_
 refine aq ?_
 refine bh rfl (by constructor) zN zS ?_
 rfl
set_option maxHeartbeats 4000000 in
theorem uo0 (p : af) (last : Int) (x : am) (ws : List Int) (al bo : List (List PlaceD)) (nB a1 a2 a3 V : Nat) (ht : dv p.text = true) (hp : ng p last x) (hw : ws.length ≤ 100) (ha : al.length ≤ 100) (hb : bo.length ≤ 100) (G : Nat → Option GObj) (nx : Nat) (hN : nB < nx) (h1 : a1 < nx) (h2 : a2 < nx) (h3 : a3 < nx) (d1 : nB ≠ a1) (d2 : nB ≠ a2) (d3 : nB ≠ a3) (d4 : a1 ≠ a2) (d5 : a1 ≠ a3) (d6 : a2 ≠ a3)
  (hGB : G nB = some (((.box (V) [lst p.text, lst p.firsts, lst p.seconds, lst p.pages, .list ((ws).map cells) (.tip a1), .list ((al).map cells) (.tip a2), .list ((bo).map cells) (.tip a3)])))) (hG1 : G a1 = some (.tip ws.length 3 1)) (hG2 : G a2 = some (.tip al.length 36 1)) (hG3 : G a3 = some (.tip bo.length 36 1)) :
  PC Tryd.prog 76 [.box nB 0 0, val x, lst (mu p.text p.text.length)] G nx fun r' G' nx' => r' = .tup [] ∧ G' = ak (ak (ak (ak G nB (((.box ((V + 1 + 1 + 1)) [lst p.text, lst p.firsts, lst p.seconds, lst p.pages, .list (((ws ++ [(fl p.text x : Int)])).map cells) (.tip a1), .list (((al ++ [ey p.text x])).map cells) (.tip a2), .list (((bo ++ [d9 p.text x])).map cells) (.tip a3)])))) a1 (.tip (ws ++ [(fl p.text x : Int)]).length 3 1)) a2 (.tip (al ++ [ey p.text x]).length 36 1)) a3 (.tip (bo ++ [d9 p.text x]).length 36 1) ∧ nx' = nx := by
 refine iz (ak (ak (ak (ak G nB (((.box ((V + 1 + 1 + 1)) [lst p.text, lst p.firsts, lst p.seconds, lst p.pages, .list (((ws ++ [(fl p.text x : Int)])).map cells) (.tip a1), .list (((al ++ [ey p.text x])).map cells) (.tip a2), .list (((bo ++ [d9 p.text x])).map cells) (.tip a3)])))) a1 (.tip (ws ++ [(fl p.text x : Int)]).length 3 1)) a2 (.tip (al ++ [ey p.text x]).length 36 1)) a3 (.tip (bo ++ [d9 p.text x]).length 36 1)) (nx) Tryd.func76 rfl (.tup dh) zN (fun hlt => zH) ?_
 simp only [Tryd.ntmps76, List.length_cons, List.length_nil, Nat.reduceAdd, Nat.reduceSub]
 refine bu fun hlt => ?_
 dsimp only at hlt
 obtain ⟨hl1, hl2, hl3⟩ := mf ht
 have hal := rh ht
 have hnd1 := yr (xr hp.found)
 have hnd2 := yr (xr hp.well)
 have hfl := qc hp.found
 have hwl := qc hp.well
 have hbl := ufz p.text x
 have hgl := xn p.text x
 have hwx := yf p.text x
 have hwt : ∀ (f : PlaceD → Bool) (l : List PlaceD), (l.filter f).length ≤ l.length := fun f l => List.length_filter_le f l
 have hstl := ubq p.text p.text.length
 have hmw : x.well.take x.well.length = x.well := List.take_length
 refine yS fun _ K1 => ?_
 refine yR ?_
 try dsimp only [St.put]
 refine yB rfl rfl rfl ?_
 refine yN ?_
 dsimp only [St.put]
 refine K1 _ ?_
 refine yS fun _ K2 => ?_
 refine yR ?_
 refine yA rfl rfl ?_
 refine yN ?_
 dsimp only [St.put]
 rw [show (0 : Int) = ((jp p.text x (gn (p.text.take 0)) : Nat) : Int) from rfl]
 refine K2 _ ?_
 refine yS fun _ K3 => ?_
 refine yS fun _ K4 => ?_
 refine yR ?_
 refine yM rfl rfl ?_
 refine aa rfl (kx rfl rfl) ?_
 refine aa rfl (dn rfl rfl) ?_
 refine aa rfl (dn rfl rfl) ?_
 refine aa rfl (dn rfl rfl) ?_
 try dsimp only [St.put]
 refine bg rfl (e8 rfl rfl zG trivial (by first | rfl | assumption)) ?_
 refine aa rfl (bp rfl rfl (List.length_map _)) ?_
 refine yM rfl rfl ?_
 refine yN ?_
 dsimp only [St.put]
 refine K4 _ ?_
 refine bk ?_
 refine cp 27 ?_
 refine zQ ?_
 refine dp (X := Nat) (fun k => k ≤ p.text.length) (fun k => p.text.length - k) (fun k => [(6, .v (.int .i64 ((jp p.text x (gn (p.text.take k)) : Nat) : Int))), (7, .any), (8, .any), (9, .any), (10, .any), (26, .v (.int .i64 (k : Int)))]) (fun k G' => G') 0 rfl ?_ ?_ (fun _ _ h => h) ?_ ?_ ?_
 ·exact Nat.zero_le _
 ·exact zF
 ·rintro k hI
  exact zL
 ·exact fun _ _ _ _ h => .inl h
 rintro k hI
 dsimp only at hI ⊢
 refine yS fun _ K5 => ?_
 refine yR ?_
 refine aa rfl (cv rfl rfl rfl) ?_
 refine yN ?_
 dsimp only [St.put]
 refine K5 _ ?_
 refine yS fun _ K6 => ?_
 refine ar rfl (fun hc => ?_) (fun hc => ?_)
 ·replace hc := of_decide_eq_true hc
  obtain ⟨c, hcx⟩ : ∃ c, p.text[k]? = some c := dr (by omega)
  have hll := (hl3 c (gd hcx)).2.1
  have hwo := (hl3 c (gd hcx)).2.2
  have hst := ubr (t := p.text) (k := p.text.length) (i := k) (by omega)
  have hsb := vy ht k (by omega)
  refine ax ?_
  refine K6 _ ?_
  refine yS fun _ K7 => ?_
  refine bk ?_
  refine yS fun _ K8 => ?_
  refine yR ?_
  refine yM rfl rfl ?_
  refine aa rfl (cb rfl rfl rfl rfl (ca (by assumption)) (Enc.len _)) ?_
  refine yE rfl rfl rfl ?_
  try dsimp only [St.put]
  refine ae rfl (dd rfl ?_)
  refine yA rfl rfl ?_
  try dsimp only [St.put]
  refine ae rfl (cw rfl rfl rfl zG rfl rfl (by rfl) ?_)
  refine yN ?_
  dsimp only [St.put]
  refine K8 _ ?_
  refine fj (i := 8) rfl zG zC ?_
  dsimp only
  refine yS fun _ K9 => ?_
  refine yR ?_
  refine yF rfl rfl rfl rfl ?_
  refine yL rfl rfl rfl ?_
  refine aa rfl (bp rfl rfl (List.length_map _)) ?_
  refine yM rfl rfl ?_
  refine yN ?_
  dsimp only [St.put]
  rw [uok p.text k c.lines]
  refine K9 _ ?_
  refine bk ?_
  refine cp 35 ?_
  refine zQ ?_
  refine dp (X := Nat) (fun n => n ≤ c.lines.length) (fun n => c.lines.length - n) (fun n => [(6, .v (.int .i64 ((jp p.text x (iw p.text k c.lines n) : Nat) : Int))), (9, .any), (10, .any), (34, .v (.int .i64 (n : Int)))]) (fun n G' => G') 0 rfl ?_ ?_ (fun _ _ h => h) ?_ ?_ ?_
  ·exact Nat.zero_le _
  ·exact zF
  ·rintro n hI
   exact zL
  ·exact fun _ _ _ _ h => .inl h
  rintro n hJ
  dsimp only at hJ ⊢
  refine yS fun _ K10 => ?_
  refine yR ?_
  refine aa rfl (cv rfl rfl rfl) ?_
  refine yN ?_
  dsimp only [St.put]
  refine K10 _ ?_
  refine yS fun _ K11 => ?_
  refine ar rfl (fun hc => ?_) (fun hc => ?_)
  ·replace hc := of_decide_eq_true hc
   obtain ⟨l, hn⟩ : ∃ l, c.lines[n]? = some l := dr (by omega)
   have hlb := hwo l (gd hn)
   have hqb : jp p.text x (iw p.text k c.lines n) ≤ 600 := by
    have hle := uoj ht hcx hn 0
    rw [← uoi] at hle
    have := hwt (ib p.text x) (iw p.text k c.lines n)
    unfold jp
    omega
   refine ax ?_
   refine K11 _ ?_
   refine yS fun _ K12 => ?_
   refine bk ?_
   refine yS fun _ K13 => ?_
   refine yR ?_
   refine yM rfl rfl ?_
   refine aa rfl (cb rfl rfl rfl rfl (ca (by assumption)) (Enc.len _)) ?_
   refine yL rfl rfl rfl ?_
   refine yA rfl rfl ?_
   refine yA rfl rfl ?_
   refine yN ?_
   dsimp only [St.put]
   refine K13 _ ?_
   refine yS fun _ K14 => ?_
   refine g8 [(0, none), (1, none), (2, none), (3, none), (4, none), (5, none), (6, none), (7, none), (8, none), (9, none), (10, none), (11, none)] (fun i => [11].contains i) (fun i => [10, 11].contains i) (fun i => [0, 2, 4, 5, 6, 8, 9].contains i) [] (by kernel_rfl) (by kernel_rfl) ?_
   refine ah rfl rfl rfl rfl (ce rfl rfl rfl) ?_
   try dsimp only [St.put]
   refine aw rfl rfl rfl rfl (bq rfl rfl) ?_
   refine ah rfl rfl rfl rfl (ce rfl rfl rfl) ?_
   try dsimp only [St.put]
   refine aw rfl rfl rfl rfl (bq rfl rfl) ?_
   refine xM rfl rfl rfl rfl rfl ?_
   refine xM rfl rfl rfl rfl rfl ?_
   try dsimp only [St.put]
   refine ah rfl rfl rfl rfl (cb rfl rfl rfl rfl (ca (by assumption)) (Enc.len _)) ?_
   try dsimp only [St.put]
   refine aw rfl rfl rfl rfl (bq rfl rfl) ?_
   refine xM rfl rfl rfl rfl rfl ?_
   refine ah rfl rfl rfl rfl (cg rfl rfl rfl (by omega)) ?_
   refine jf ?_
   try dsimp only [St.put]
   refine i9 rfl rfl rfl (du rfl rfl rfl (by decide) (by decide) zR (by decide) ⟨zD, ?_⟩)
   try dsimp only [St.put]
   refine g9 rfl rfl rfl rfl (ay rfl rfl rfl (nw _ _ [_]) ?_)
   refine je ?_
   dsimp only [St.put]
   refine K14 _ ?_
   refine ar rfl (fun hc => ?_) (fun hc => ?_)
   ·have hpg : inB ((f5 p.text k : Int) + (n : Int)) x.fr x.to = true := by rw [gj] at hc; exact hc
    refine yR ?_
    refine yM rfl rfl ?_
    refine yM rfl rfl ?_
    refine aa rfl (bp rfl rfl (List.length_map _)) ?_
    refine aa rfl (cg rfl rfl rfl (by omega)) ?_
    refine yA rfl rfl ?_
    refine yN ?_
    dsimp only [St.put]
    refine K12 _ ?_
    refine yR ?_
    refine aa rfl (cg rfl rfl rfl (by omega)) ?_
    refine yM rfl rfl ?_
    refine yN ?_
    dsimp only [St.put]
    have e := ube p.text x (k := k) hn
    first
    | (rw [hpg, cond_true] at e
       rw [show ((jp p.text x (iw p.text k c.lines n) : Nat) : Int) + (l.length : Int) = ((jp p.text x (iw p.text k c.lines (n + 1)) : Nat) : Int) by rw [e]; rfl]
       exact ⟨n + 1, by omega, by omega, ⟨⟨rfl, rfl⟩, zF, zB, zN, zX⟩⟩)
    | (rw [hpn, cond_false] at e
       rw [show jp p.text x (iw p.text k c.lines n) = jp p.text x (iw p.text k c.lines (n + 1)) from e.symm]
       exact ⟨n + 1, by omega, by omega, ⟨⟨rfl, rfl⟩, zF, zB, zN, zX⟩⟩)
   have hpn : inB ((f5 p.text k : Int) + (n : Int)) x.fr x.to = false := by rw [gj] at hc; exact hc
   refine ax ?_
   refine K12 _ ?_
   refine yR ?_
   refine aa rfl (cg rfl rfl rfl (by omega)) ?_
   refine yM rfl rfl ?_
   refine yN ?_
   dsimp only [St.put]
   have e := ube p.text x (k := k) hn
   first
   | (rw [hpg, cond_true] at e
      rw [show ((jp p.text x (iw p.text k c.lines n) : Nat) : Int) + (l.length : Int) = ((jp p.text x (iw p.text k c.lines (n + 1)) : Nat) : Int) by rw [e]; rfl]
      exact ⟨n + 1, by omega, by omega, ⟨⟨rfl, rfl⟩, zF, zB, zN, zX⟩⟩)
   | (rw [hpn, cond_false] at e
      rw [show jp p.text x (iw p.text k c.lines n) = jp p.text x (iw p.text k c.lines (n + 1)) from e.symm]
      exact ⟨n + 1, by omega, by omega, ⟨⟨rfl, rfl⟩, zF, zB, zN, zX⟩⟩)
  replace hc := of_decide_eq_false hc
  refine dj ?_
  refine K7 _ ?_
  refine yR ?_
  refine aa rfl (cg rfl rfl rfl (by omega)) ?_
  refine yM rfl rfl ?_
  refine yN ?_
  dsimp only [St.put]
  rw [uol (n := n) hcx (by omega)]
  exact ⟨k + 1, by omega, by omega, ⟨⟨rfl, rfl⟩, zF, zB, zN, zX⟩⟩
 replace hc := of_decide_eq_false hc
 obtain rfl : k = p.text.length := by omega
 rw [List.take_length, uhc]
 refine dj ?_
 refine K3 _ ?_
 refine yS fun _ K15 => ?_
 refine yR ?_
 try dsimp only [St.put]
 refine ae rfl (uap (α := PlaceD) rfl ?_)
 refine yA rfl rfl ?_
 refine yN ?_
 dsimp only [St.put]
 refine K15 _ ?_
 refine yS fun _ K16 => ?_
 refine yS fun _ K17 => ?_
 refine yR ?_
 refine yF rfl rfl rfl rfl ?_
 refine yL rfl rfl rfl ?_
 refine aa rfl (bp rfl rfl (List.length_map _)) ?_
 refine yM rfl rfl ?_
 refine yN ?_
 dsimp only [St.put]
 refine K17 _ ?_
 refine bk ?_
 refine cp 62 ?_
 refine zQ ?_
 refine dq ((ak G nx (iv Tryd.prog 54 (0) ((fun _ => none))))) zX ?_
 dsimp only
 refine dp (X := Nat) (fun k => k ≤ x.found.length) (fun k => x.found.length - k) (fun k => [(13, .any), (61, .v (.int .i64 (k : Int)))]) (fun k G' => (ak G nx (iv Tryd.prog 54 (k) ((gr fun q => decide (q ∈ x.found.take k)))))) 0 rfl ?_ ?_ ?_ ?_ ?_ ?_
 ·exact Nat.zero_le _
 ·exact zF
 ·rw [show (gr fun q => decide (q ∈ x.found.take 0)) = fun _ => none from ukv]
  exact zX
 ·rintro k hI
  exact (by (try dsimp only); repeat' (first | exact trivial | refine ⟨?_, ?_⟩ | exact .v | exact .any | refine .elem ?_ | exact br _ _ | exact fq _ _ | exact ei _ _ | exact f4 _ (by (try dsimp only); omega) | exact .box (by (try dsimp only); omega) | exact fk | exact dh | exact iu (ny _ _) | refine f8 ?_ ?_ | exact .arr (by (try dsimp only); omega) | exact .own (by (try dsimp only); omega) | exact .map (by (try dsimp only); omega) | exact fa _ | refine ci ?_ ?_ | exact br _ _))
 ·rintro k hI
  exact (by (repeat' (refine l4 ?_ (by (try dsimp only); omega) ?_)); all_goals (first | exact l5 zS | (repeat' (first | exact trivial | refine ⟨?_, ?_⟩ | exact .v | exact .any | refine .elem ?_ | exact br _ _ | exact fq _ _ | exact ei _ _ | exact f4 _ (by (try dsimp only); omega) | exact .box (by (try dsimp only); omega) | exact fk | exact dh | exact iu (ny _ _) | refine f8 ?_ ?_ | exact .arr (by (try dsimp only); omega) | exact .own (by (try dsimp only); omega) | exact .map (by (try dsimp only); omega) | exact fa _ | refine ci ?_ ?_ | exact br _ _))))
 rintro k hK
 dsimp only at hK ⊢
 refine yS fun _ K18 => ?_
 refine yR ?_
 refine aa rfl (cv rfl rfl rfl) ?_
 refine yN ?_
 dsimp only [St.put]
 refine K18 _ ?_
 refine yS fun _ K19 => ?_
 refine ar rfl (fun hc => ?_) (fun hc => ?_)
 ·replace hc := of_decide_eq_true hc
  obtain ⟨q, hq⟩ : ∃ q, x.found[k]? = some q := dr (by omega)
  refine ax ?_
  refine K19 _ ?_
  refine yS fun _ K20 => ?_
  refine bk ?_
  refine yS fun _ K21 => ?_
  refine yR ?_
  refine aa rfl (cb rfl rfl rfl rfl (ca (by assumption)) (Enc.len _)) ?_
  refine yE rfl rfl rfl ?_
  try dsimp only [St.put]
  refine ae rfl (dd rfl ?_)
  try dsimp only [St.put]
  refine ae rfl (cw rfl rfl rfl zG rfl rfl (by rfl) ?_)
  refine yN ?_
  dsimp only [St.put]
  refine K21 _ ?_
  refine fj (i := 13) rfl zG zC ?_
  dsimp only
  refine yR ?_
  refine yM rfl rfl ?_
  refine yE rfl rfl rfl ?_
  try dsimp only [St.put]
  refine ae rfl (u9 (q) rfl rfl rfl zG rfl (ukw hq) ?_)
  refine yN ?_
  dsimp only [St.put]
  refine K20 _ ?_
  refine yR ?_
  refine aa rfl (cg rfl rfl rfl (by omega)) ?_
  refine yM rfl rfl ?_
  refine yN ?_
  dsimp only [St.put]
  exact ⟨k + 1, by omega, by omega, ⟨⟨rfl, rfl⟩, zF, zB, zN, zX⟩⟩
 replace hc := of_decide_eq_false hc
 obtain rfl : k = x.found.length := by omega
 rw [List.take_length, show (fun q => decide (q ∈ x.found)) = gi x.found (x.well.take 0) from funext fun q => (ukx x.found q).symm]
 refine dj ?_
 refine K16 _ ?_
 refine yS fun _ K22 => ?_
 by_cases hB : d9 p.text x = []
 ·refine yR ?_
  refine yA rfl rfl ?_
  refine yN ?_
  dsimp only [St.put]
  refine K22 _ ?_
  refine yS fun _ K23 => ?_
  refine yS fun _ K24 => ?_
  refine yR ?_
  refine yF rfl rfl rfl rfl ?_
  refine yL rfl rfl rfl ?_
  refine aa rfl (bp rfl rfl (List.length_map _)) ?_
  refine yM rfl rfl ?_
  refine yN ?_
  dsimp only [St.put]
  refine K24 _ ?_
  refine bk ?_
  refine cp 72 ?_
  refine zQ ?_
  refine dq ((ak G nx (iv Tryd.prog 54 (x.found.length) ((gr (gi x.found (x.well.take 0))))))) zX ?_
  dsimp only
  refine dp (X := Nat) (fun k => k ≤ x.well.length) (fun k => x.well.length - k) (fun k => [(16, .any), (71, .v (.int .i64 (k : Int)))]) (fun k G' => (ak G nx (iv Tryd.prog 54 ((x.found.length + k)) ((gr (gi x.found (x.well.take k))))))) 0 rfl ?_ ?_ ?_ ?_ ?_ ?_
  ·exact Nat.zero_le _
  ·exact zF
  ·exact zX
  ·rintro k hI
   exact (by (try dsimp only); repeat' (first | exact trivial | refine ⟨?_, ?_⟩ | exact .v | exact .any | refine .elem ?_ | exact br _ _ | exact fq _ _ | exact ei _ _ | exact f4 _ (by (try dsimp only); omega) | exact .box (by (try dsimp only); omega) | exact fk | exact dh | exact iu (ny _ _) | refine f8 ?_ ?_ | exact .arr (by (try dsimp only); omega) | exact .own (by (try dsimp only); omega) | exact .map (by (try dsimp only); omega) | exact fa _ | refine ci ?_ ?_ | exact br _ _))
  ·rintro k hI
   exact (by (repeat' (refine l4 ?_ (by (try dsimp only); omega) ?_)); all_goals (first | exact l5 zS | (repeat' (first | exact trivial | refine ⟨?_, ?_⟩ | exact .v | exact .any | refine .elem ?_ | exact br _ _ | exact fq _ _ | exact ei _ _ | exact f4 _ (by (try dsimp only); omega) | exact .box (by (try dsimp only); omega) | exact fk | exact dh | exact iu (ny _ _) | refine f8 ?_ ?_ | exact .arr (by (try dsimp only); omega) | exact .own (by (try dsimp only); omega) | exact .map (by (try dsimp only); omega) | exact fa _ | refine ci ?_ ?_ | exact br _ _))))
  rintro k hK
  dsimp only at hK ⊢
  refine yS fun _ K25 => ?_
  refine yR ?_
  refine aa rfl (cv rfl rfl rfl) ?_
  refine yN ?_
  dsimp only [St.put]
  refine K25 _ ?_
  refine yS fun _ K26 => ?_
  refine ar rfl (fun hc => ?_) (fun hc => ?_)
  ·replace hc := of_decide_eq_true hc
   obtain ⟨q, hq⟩ : ∃ q, x.well[k]? = some q := dr (by omega)
   have hbt := ufy x.found x.well k
   refine ax ?_
   refine K26 _ ?_
   refine yS fun _ K27 => ?_
   refine bk ?_
   refine yS fun _ K28 => ?_
   refine yR ?_
   refine aa rfl (cb rfl rfl rfl rfl (ca (by assumption)) (Enc.len _)) ?_
   refine yE rfl rfl rfl ?_
   try dsimp only [St.put]
   refine ae rfl (dd rfl ?_)
   try dsimp only [St.put]
   refine ae rfl (cw rfl rfl rfl zG rfl rfl (by rfl) ?_)
   refine yN ?_
   dsimp only [St.put]
   refine K28 _ ?_
   refine fj (i := 16) rfl zG zC ?_
   dsimp only
   refine yS fun _ K29 => ?_
   refine yR ?_
   refine yM rfl rfl ?_
   refine yE rfl rfl rfl ?_
   try dsimp only [St.put]
   refine bg rfl (wc q rfl rfl zG trivial rfl (uc8 _ _)) ?_
   refine yN ?_
   dsimp only [St.put]
   refine K29 _ ?_
   refine ar rfl (fun hc => ?_) (fun hc => ?_)
   ·have hin : q ∈ x.found := by
     rw [wy hnd2 hq] at hc
     exact of_decide_eq_true hc
    refine yS fun _ K30 => ?_
    refine yR ?_
    refine yM rfl rfl ?_
    refine yE rfl rfl rfl ?_
    try dsimp only [St.put]
    refine ae rfl (du rfl rfl rfl (by decide) (by decide) zR (by decide) ?_)
    try dsimp only [St.put]
    refine ae rfl (xw rfl rfl (.inr rfl) rfl (show 1 ≤ 3 by decide) (fun r hr => by rw [List.mem_singleton] at hr; subst hr; rfl) (by simp) (by simp) ?_)
    refine yA rfl rfl ?_
    refine yN ?_
    dsimp only [St.put]
    refine K30 _ ?_
    refine yR ?_
    refine yM rfl rfl ?_
    refine yE rfl rfl rfl ?_
    try dsimp only [St.put]
    refine ae rfl (ufl q rfl rfl zG rfl (uc7 hnd2 hq hin) ?_)
    refine yN ?_
    dsimp only [St.put]
    refine K27 _ ?_
    refine yR ?_
    refine aa rfl (cg rfl rfl rfl (by omega)) ?_
    refine yM rfl rfl ?_
    refine yN ?_
    dsimp only [St.put]
    first
    | exact absurd (show q ∈ x.found from hin) (ufw hp hB hq)
    | exact ⟨k + 1, by omega, by omega, ⟨⟨rfl, rfl⟩, zF, zB, zN, zX⟩⟩
   have hout : q ∉ x.found := by
    rw [wy hnd2 hq] at hc
    exact of_decide_eq_false hc
   refine yR ?_
   refine yM rfl rfl ?_
   refine yE rfl rfl rfl ?_
   try dsimp only [St.put]
   refine ae rfl (u9 (q) rfl rfl rfl zG rfl (uc6 hnd2 hq hout) ?_)
   refine yN ?_
   dsimp only [St.put]
   refine K27 _ ?_
   refine yR ?_
   refine aa rfl (cg rfl rfl rfl (by omega)) ?_
   refine yM rfl rfl ?_
   refine yN ?_
   dsimp only [St.put]
   first
   | exact absurd (show q ∈ x.found from hin) (ufw hp hB hq)
   | exact ⟨k + 1, by omega, by omega, ⟨⟨rfl, rfl⟩, zF, zB, zN, zX⟩⟩
  replace hc := of_decide_eq_false hc
  obtain rfl : k = x.well.length := by omega
  refine dj ?_
  refine K23 _ ?_
  refine yS fun _ K31 => ?_
  refine yR ?_
  refine yM rfl rfl ?_
  try dsimp only [St.put]
  refine ae rfl (ay rfl rfl rfl (unj) ?_)
  refine yA rfl rfl ?_
  refine yN ?_
  dsimp only [St.put]
  refine K31 _ ?_
  refine ugg 17 54 3 rfl (by decide) ?_
  dsimp only
  refine yS fun _ K32 => ?_
  refine yS fun _ K33 => ?_
  refine yR ?_
  refine yM rfl rfl ?_
  try dsimp only [St.put]
  refine ae rfl (ufh rfl rfl zG fun r β cl ks hnd hks0 hinj => ?_)
  refine yN ?_
  dsimp only [St.put]
  refine K33 _ ?_
  rw [hmw] at hks0
  rw [hmw]
  refine bk ?_
  refine cp 91 ?_
  refine zQ ?_
  refine dq (ak (ak (ak (ak G nx (o7 Tryd.prog 54 (x.found.length + x.well.length) (gr (gi x.found x.well)) β cl)) (nx + 1) (.arr 0 0 54 3 0 [])) (nx + 1 + 1) (.raw 0 (.mapIter (some r) cl (jg β ([] : List PlaceD)) cl))) (nx + 1 + 1 + 1) (.fact (.map (some r)) (.map nx))) zX ?_
  dsimp only
  refine dp (X := List PlaceD × Nat × Nat × Nat) (fun y => (∀ z ∈ y.1, z ∈ ks) ∧ y.1.Nodup) (fun y => un ks y.1) (fun y => [(17, .own (nx + 1) y.2.2.1 (([] : List PlaceD) ++ y.1).length), (18, .any)]) (fun y G' => (ak (ak (ak (ak G nx (o7 Tryd.prog 54 ((x.found.length + x.well.length)) (gr ((gi x.found x.well))) β cl)) ((nx + 1)) (.arr y.2.2.1 y.2.2.2 54 3 ((([] : List PlaceD) ++ y.1)).length (cr ((([] : List PlaceD) ++ y.1))))) ((nx + 1 + 1)) (.raw y.2.1 (.mapIter (some r) cl (jg β y.1) cl))) ((nx + 1 + 1 + 1)) (.fact (.map (some r)) (.map nx)))) ([], 0, 0, 0) rfl ?_ ?_ ?_ ?_ ?_ ?_
  ·exact ⟨fun z hz => by simp at hz, List.nodup_nil⟩
  ·exact zF
  ·exact zX
  ·rintro ⟨done, wi, vl, wv⟩ hI
   exact (by (try dsimp only); repeat' (first | exact trivial | refine ⟨?_, ?_⟩ | exact .v | exact .any | refine .elem ?_ | exact br _ _ | exact fq _ _ | exact ei _ _ | exact f4 _ (by (try dsimp only); omega) | exact .box (by (try dsimp only); omega) | exact fk | exact dh | exact xl (ny _ _) | exact fa _ | refine f8 ?_ ?_ | exact .arr (by (try dsimp only); omega) | exact .own (by (try dsimp only); omega) | exact .map (by (try dsimp only); omega) | exact fa _ | refine ci ?_ ?_ | exact br _ _))
  ·rintro ⟨done, wi, vl, wv⟩ hI
   exact (by (repeat' (refine l4 ?_ (by (try dsimp only); omega) ?_)); all_goals (first | exact l5 zS | (repeat' (first | exact trivial | refine ⟨?_, ?_⟩ | exact .v | exact .any | refine .elem ?_ | exact br _ _ | exact fq _ _ | exact ei _ _ | exact f4 _ (by (try dsimp only); omega) | exact .box (by (try dsimp only); omega) | exact fk | exact dh | exact xl (ny _ _) | exact fa _ | refine f8 ?_ ?_ | exact .arr (by (try dsimp only); omega) | exact .own (by (try dsimp only); omega) | exact .map (by (try dsimp only); omega) | exact fa _ | refine ci ?_ ?_ | exact br _ _))))
  rintro ⟨done, wi, vl, wv⟩ hI8
  dsimp only at hI8 ⊢
  refine yS fun _ K34 => ?_
  refine yR ?_
  try dsimp only [St.put]
  refine ae rfl (ufi (done := done) rfl rfl zG zG zG (hks0) (hinj) (hI8.1) (fun hend => ?_) (fun y c hym hyk hyd => ?_))
  ·have hdl := wx hp hI8.2 (fun q hq => onceM_ne.1 ((hks0 q).2 (hI8.1 q hq)))
   have hdk : ∀ q, q ∈ done ↔ gi x.found x.well q = true := fun q => ⟨fun hq => onceM_ne.1 ((hks0 q).2 (hI8.1 q hq)), fun hq => hend q ((hks0 q).1 (onceM_ne.2 hq))⟩
   have hpb := uc5 hp ht (fun q hq => (hdk q).1 hq)
   refine yX rfl rfl rfl rfl ?_
   refine yN ?_
   dsimp only [St.put]
   refine K34 _ ?_
   refine yS fun _ K35 => ?_
   refine ar rfl (fun h => by cases h) (fun _ => ?_)
   refine dj ?_
   refine K32 _ ?_
   refine yS fun _ K36 => ?_
   have hpb2 : ∀ y ∈ ([] : List PlaceD) ++ done, PBd9 y := fun y hy => hpb y (by simpa using hy)
   refine yR ?_
   refine yM rfl rfl ?_
   try dsimp only [St.put]
   refine ae rfl (ufg ubu PBd9 mi rfl rfl rfl rfl zG rfl rfl rfl (fun y hy => hy.plain) hpb2 (by first | (rw [List.length_append]; omega) | (simp only [List.nil_append]; omega)) (fun a b _ _ => zf a b _ _) uc2 (fun ys hperm hsort => ?_))
   refine yN ?_
   dsimp only [St.put]
   have hlen := hperm.length_eq
   rw [← hB] at hperm hlen
   obtain rfl := ugm hp hI8.2 hdk hperm hsort
   refine K36 _ ?_
   refine x5 14 (lst ([] : List PlaceD)) rfl Wk.tok ?_
   refine ua1 17 (ey p.text x) rfl zG rfl rfl (by rw [hlen, hB]) ?_
   dsimp only
   refine ugd [(0, none), (1, none), (2, none), (3, none), (4, none), (5, none), (6, none), (7, none), (10, none), (11, none), (12, none), (13, none), (14, none), (17, none), (18, none), (19, none), (20, none), (21, none)] (fun i => [23, 26, 29, 32].contains i) (fun i => [0, 1, 2, 3, 4, 5, 7, 10, 11, 12, 14, 17, 18, 19, 21].contains i) 15 (rl [8, 2, 5, 2, 5, 11]) [nB] (by kernel_rfl) (by kernel_rfl) ?_
   refine xM rfl rfl rfl rfl rfl ?_
   refine xM rfl rfl rfl rfl rfl ?_
   refine xM rfl rfl rfl rfl rfl ?_
   refine xM rfl rfl rfl rfl rfl ?_
   refine ah rfl rfl rfl rfl (kx rfl rfl) ?_
   refine ah rfl rfl rfl rfl (dn rfl rfl) ?_
   try dsimp only [St.put]
   refine aw rfl rfl rfl rfl (e8 rfl rfl zG (by simp) (by first | rfl | assumption)) ?_
   refine xM rfl rfl rfl rfl rfl ?_
   refine xM rfl rfl rfl rfl rfl ?_
   refine ah rfl rfl rfl rfl (kx rfl rfl) ?_
   refine ah rfl rfl rfl rfl (dn rfl rfl) ?_
   try dsimp only [St.put]
   refine aw rfl rfl rfl rfl (e8 rfl rfl zG (by simp) (by first | rfl | assumption)) ?_
   refine xM rfl rfl rfl rfl rfl ?_
   refine xM rfl rfl rfl rfl rfl ?_
   refine ah rfl rfl rfl rfl (kx rfl rfl) ?_
   refine ah rfl rfl rfl rfl (dn rfl rfl) ?_
   try dsimp only [St.put]
   refine aw rfl rfl rfl rfl (e8 rfl rfl zG (by simp) (by first | rfl | assumption)) ?_
   refine xM rfl rfl rfl rfl rfl ?_
   refine cn ⟨zD, ?_⟩
   dsimp only [St.put]
   refine ugr ws al bo (fl p.text x : Int) (ey p.text x) (([] : List PlaceD)) nB a1 a2 a3 _ rfl (by kernel_rfl) (by kernel_rfl) (by kernel_rfl) rfl rfl rfl rfl rfl rfl rfl rfl rfl rfl rfl rfl rfl zG zG zG zG d1 d2 d3 d4 d5 d6 hw ha hb ?_
   dsimp only
   refine sy [(24, none), (25, none)] 7 (rl [26, 7]) (by kernel_rfl) ?_
   refine ah rfl rfl rfl rfl (kx rfl rfl) ?_
   refine ah rfl rfl rfl rfl (dn rfl rfl) ?_
   refine cn ⟨zD, ?_⟩
   refine rj [26] (by kernel_rfl) (by simp) ?_
   refine sx ?_ ?_
   ·try dsimp only [St.put]
    refine sr rfl rfl rfl rfl (i7 rfl rfl rfl zG (by constructor) rfl zO ?_)
    refine sy [(27, none), (28, none)] 4 (rl [29, 4]) (by kernel_rfl) ?_
    refine ah rfl rfl rfl rfl (kx rfl rfl) ?_
    refine ah rfl rfl rfl rfl (dn rfl rfl) ?_
    refine cn ⟨zD, ?_⟩
    refine rj [29] (by kernel_rfl) (by simp) ?_
    refine sx ?_ ?_
    ·try dsimp only [St.put]
     refine sr rfl rfl rfl rfl (i7 rfl rfl rfl zG (by constructor) rfl zO ?_)
     refine sy [(30, none), (31, none)] 1 (rl [32, 1]) (by kernel_rfl) ?_
     refine ah rfl rfl rfl rfl (kx rfl rfl) ?_
     refine ah rfl rfl rfl rfl (dn rfl rfl) ?_
     refine cn ⟨zD, ?_⟩
     refine rj [32] (by kernel_rfl) (by simp) ?_
     refine sx ?_ ?_
     ·try dsimp only [St.put]
      refine sr rfl rfl rfl rfl (i7 rfl rfl rfl zG (by constructor) rfl zO ?_)
      dsimp only [St.put]
      refine ugs (by kernel_rfl) ?_
      rw [hB]
      refine ue9 rfl (.inl rfl) zN (ubn zG zG zG zG fun n o q1 q2 q3 q4 h => ?_)
      have hn := hlt n o h
      (try dsimp only)
      repeat (first | exact h | rw [cy (by omega)] | rw [l9 (by omega)])
     exact sw
    exact sw
   exact sw
  have hz0 := zj hym
  subst hz0
  obtain ⟨z, hz⟩ : ∃ z, z = y := ⟨_, rfl⟩
  subst hz
  have hIn : ∀ z ∈ ks, ∀ x ∈ done ++ [z], x ∈ ks := fun z hz x hx => by
   rcases List.mem_append.1 hx with hx | hx
   ·exact hI8.1 x hx
   rw [List.mem_singleton] at hx; exact hx ▸ hz
  have hIu : ∀ z, z ∉ done → (done ++ [z]).Nodup := fun z hz => List.nodup_append.2 ⟨hI8.2, by simp, fun a ha b hb => by
   rw [List.mem_singleton] at hb; subst hb; exact fun e => hz (e ▸ ha)⟩
  have hdl := wx hp hI8.2 (fun q hq => onceM_ne.1 ((hks0 q).2 (hI8.1 q hq)))
  refine yX rfl rfl rfl rfl ?_
  refine yN ?_
  dsimp only [St.put]
  refine K34 _ ?_
  refine yS fun _ K37 => ?_
  refine ar rfl (fun _ => ?_) (fun h => by cases h)
  refine ax ?_
  refine K37 _ ?_
  refine bk ?_
  refine yS fun _ K38 => ?_
  refine yR ?_
  try dsimp only [St.put]
  refine bg rfl (ub2 (fx := nx + 1 + 1 + 1) (n := nx) rfl rfl zG trivial zG zG trivial (by assumption)) ?_
  refine yX rfl rfl rfl rfl ?_
  try dsimp only [St.put]
  refine ae rfl (dd rfl ?_)
  try dsimp only [St.put]
  refine ae rfl (cw rfl rfl rfl zG rfl rfl (by rfl) ?_)
  refine yN ?_
  dsimp only [St.put]
  refine K38 _ ?_
  refine fj (i := 18) rfl zG zC ?_
  dsimp only
  refine yR ?_
  refine yM rfl rfl ?_
  try dsimp only [St.put]
  refine bg rfl (dl rfl rfl rfl) ?_
  try dsimp only [St.put]
  refine ae rfl (du rfl rfl rfl (by decide) (by decide) zR (by decide) ?_)
  try dsimp only [St.put]
  refine ae rfl (o9 (xs := ([] : List PlaceD) ++ done) [z] rfl rfl zG rfl rfl rfl rfl zA zA (fun v3 => ?_))
  refine yA rfl rfl ?_
  refine yN ?_
  dsimp only [St.put]
  simp only [List.append_assoc]
  exact ⟨(done ++ [z], wi + 1, v3, wv), ud3 hyk hyd, ⟨hIn z hyk, hIu z hyd⟩, ⟨⟨rfl, rfl⟩, zF, zB, zN, zX⟩⟩
 refine yR ?_
 refine yA rfl rfl ?_
 refine yN ?_
 dsimp only [St.put]
 refine K22 _ ?_
 refine re 14 54 3 rfl (by decide) ?_
 dsimp only [List.set_cons_zero, List.set_cons_succ]
 refine yS fun _ K39 => ?_
 refine yS fun _ K40 => ?_
 refine yR ?_
 refine yF rfl rfl rfl rfl ?_
 refine yL rfl rfl rfl ?_
 refine aa rfl (bp rfl rfl (List.length_map _)) ?_
 refine yM rfl rfl ?_
 refine yN ?_
 dsimp only [St.put]
 refine K40 _ ?_
 refine bk ?_
 refine cp 72 ?_
 refine zQ ?_
 refine dq (ak ((ak G nx (iv Tryd.prog 54 (x.found.length) ((gr (gi x.found (x.well.take 0))))))) (nx + 1) (.tip 0 54 3)) zX ?_
 dsimp only
 refine dp (X := Nat) (fun k => k ≤ x.well.length) (fun k => x.well.length - k) (fun k => [(14, .list ((nd x.found x.well k).map cells) (.tip (nx + 1))), (16, .any), (71, .v (.int .i64 (k : Int)))]) (fun k G' => ak ((ak G nx (iv Tryd.prog 54 ((x.found.length + k)) ((gr (gi x.found (x.well.take k))))))) (nx + 1) (.tip (nd x.found x.well k).length 54 3)) 0 rfl ?_ ?_ ?_ ?_ ?_ ?_
 ·exact Nat.zero_le _
 ·exact zF
 ·exact zX
 ·rintro k hI
  exact (by (try dsimp only); repeat' (first | exact trivial | refine ⟨?_, ?_⟩ | exact .v | exact .any | refine .elem ?_ | exact br _ _ | exact fq _ _ | exact ei _ _ | exact f4 _ (by (try dsimp only); omega) | exact .box (by (try dsimp only); omega) | exact fk | exact dh | exact iu (ny _ _) | refine f8 ?_ ?_ | exact .arr (by (try dsimp only); omega) | exact .own (by (try dsimp only); omega) | exact .map (by (try dsimp only); omega) | exact fa _ | refine ci ?_ ?_ | exact br _ _))
 ·rintro k hI
  exact (by (repeat' (refine l4 ?_ (by (try dsimp only); omega) ?_)); all_goals (first | exact l5 zS | (repeat' (first | exact trivial | refine ⟨?_, ?_⟩ | exact .v | exact .any | refine .elem ?_ | exact br _ _ | exact fq _ _ | exact ei _ _ | exact f4 _ (by (try dsimp only); omega) | exact .box (by (try dsimp only); omega) | exact fk | exact dh | exact iu (ny _ _) | refine f8 ?_ ?_ | exact .arr (by (try dsimp only); omega) | exact .own (by (try dsimp only); omega) | exact .map (by (try dsimp only); omega) | exact fa _ | refine ci ?_ ?_ | exact br _ _))))
 rintro k hK
 dsimp only at hK ⊢
 refine yS fun _ K41 => ?_
 refine yR ?_
 refine aa rfl (cv rfl rfl rfl) ?_
 refine yN ?_
 dsimp only [St.put]
 refine K41 _ ?_
 refine yS fun _ K42 => ?_
 refine ar rfl (fun hc => ?_) (fun hc => ?_)
 ·replace hc := of_decide_eq_true hc
  obtain ⟨q, hq⟩ : ∃ q, x.well[k]? = some q := dr (by omega)
  have hbt := ufy x.found x.well k
  refine ax ?_
  refine K42 _ ?_
  refine yS fun _ K43 => ?_
  refine bk ?_
  refine yS fun _ K44 => ?_
  refine yR ?_
  refine aa rfl (cb rfl rfl rfl rfl (ca (by assumption)) (Enc.len _)) ?_
  refine yE rfl rfl rfl ?_
  try dsimp only [St.put]
  refine ae rfl (dd rfl ?_)
  try dsimp only [St.put]
  refine ae rfl (cw rfl rfl rfl zG rfl rfl (by rfl) ?_)
  refine yN ?_
  dsimp only [St.put]
  refine K44 _ ?_
  refine fj (i := 16) rfl zG zC ?_
  dsimp only
  refine yS fun _ K45 => ?_
  refine yR ?_
  refine yM rfl rfl ?_
  refine yE rfl rfl rfl ?_
  try dsimp only [St.put]
  refine bg rfl (wc q rfl rfl zG trivial rfl (uc8 _ _)) ?_
  refine yN ?_
  dsimp only [St.put]
  refine K45 _ ?_
  refine ar rfl (fun hc => ?_) (fun hc => ?_)
  ·have hin : q ∈ x.found := by
    rw [wy hnd2 hq] at hc
    exact of_decide_eq_true hc
   refine yS fun _ K46 => ?_
   refine yR ?_
   refine yM rfl rfl ?_
   refine yE rfl rfl rfl ?_
   try dsimp only [St.put]
   refine ae rfl (du rfl rfl rfl (by decide) (by decide) zR (by decide) ?_)
   try dsimp only [St.put]
   refine ae rfl (jz ([q]) rfl rfl zG zE rfl rfl zA ?_ zA)
   refine yA rfl rfl ?_
   refine yN ?_
   dsimp only [St.put]
   refine K46 _ ?_
   refine yR ?_
   refine yM rfl rfl ?_
   refine yE rfl rfl rfl ?_
   try dsimp only [St.put]
   refine ae rfl (ufl q rfl rfl zG rfl (uc7 hnd2 hq hin) ?_)
   refine yN ?_
   dsimp only [St.put]
   refine K43 _ ?_
   refine yR ?_
   refine aa rfl (cg rfl rfl rfl (by omega)) ?_
   refine yM rfl rfl ?_
   refine yN ?_
   dsimp only [St.put]
   have e := ufx (F := x.found) hq
   first
   | (have hi : q ∈ x.found := hin
      rw [decide_eq_true hi, cond_true] at e
      simp only [← e]
      exact ⟨k + 1, by omega, by omega, ⟨⟨rfl, rfl⟩, zF, zB, zN, zX⟩⟩)
   | (have hi : q ∉ x.found := hout
      rw [decide_eq_false hi, cond_false, List.append_nil] at e
      simp only [← e]
      exact ⟨k + 1, by omega, by omega, ⟨⟨rfl, rfl⟩, zF, zB, zN, zX⟩⟩)
  have hout : q ∉ x.found := by
   rw [wy hnd2 hq] at hc
   exact of_decide_eq_false hc
  refine yR ?_
  refine yM rfl rfl ?_
  refine yE rfl rfl rfl ?_
  try dsimp only [St.put]
  refine ae rfl (u9 (q) rfl rfl rfl zG rfl (uc6 hnd2 hq hout) ?_)
  refine yN ?_
  dsimp only [St.put]
  refine K43 _ ?_
  refine yR ?_
  refine aa rfl (cg rfl rfl rfl (by omega)) ?_
  refine yM rfl rfl ?_
  refine yN ?_
  dsimp only [St.put]
  have e := ufx (F := x.found) hq
  first
  | (have hi : q ∈ x.found := hin
     rw [decide_eq_true hi, cond_true] at e
     simp only [← e]
     exact ⟨k + 1, by omega, by omega, ⟨⟨rfl, rfl⟩, zF, zB, zN, zX⟩⟩)
  | (have hi : q ∉ x.found := hout
     rw [decide_eq_false hi, cond_false, List.append_nil] at e
     simp only [← e]
     exact ⟨k + 1, by omega, by omega, ⟨⟨rfl, rfl⟩, zF, zB, zN, zX⟩⟩)
 replace hc := of_decide_eq_false hc
 obtain rfl : k = x.well.length := by omega
 rw [uny hp]
 refine dj ?_
 refine K39 _ ?_
 refine yS fun _ K47 => ?_
 refine x5 14 (lst (d9 p.text x)) rfl Wk.tok ?_
 refine yR ?_
 refine yM rfl rfl ?_
 try dsimp only [St.put]
 refine ae rfl (vd rfl rfl rfl (uni (d9 p.text x) hB (by omega) _ _) ?_)
 refine yA rfl rfl ?_
 refine yN ?_
 dsimp only [St.put]
 refine K47 _ ?_
 refine yS fun _ K48 => ?_
 refine yS fun _ K49 => ?_
 refine yR ?_
 refine yM rfl rfl ?_
 try dsimp only [St.put]
 refine ae rfl (ufh rfl rfl zG fun r β cl ks hnd hks0 hinj => ?_)
 refine yN ?_
 dsimp only [St.put]
 refine K49 _ ?_
 rw [hmw] at hks0
 rw [hmw]
 refine bk ?_
 refine cp 91 ?_
 refine zQ ?_
 refine dq (ak (ak (ak (ak G nx (o7 Tryd.prog 54 (x.found.length + x.well.length) (gr (gi x.found x.well)) β cl)) (nx + 1 + 1) (.arr 0 0 54 3 (d9 p.text x).length (cr (d9 p.text x)))) (nx + 1 + 1 + 1) (.raw 0 (.mapIter (some r) cl (jg β ([] : List PlaceD)) cl))) (nx + 1 + 1 + 1 + 1) (.fact (.map (some r)) (.map nx))) zX ?_
 dsimp only
 refine dp (X := List PlaceD × Nat × Nat × Nat) (fun y => (∀ z ∈ y.1, z ∈ ks) ∧ y.1.Nodup) (fun y => un ks y.1) (fun y => [(17, .own (nx + 1 + 1) y.2.2.1 (d9 p.text x ++ y.1).length), (18, .any)]) (fun y G' => (ak (ak (ak (ak G nx (o7 Tryd.prog 54 ((x.found.length + x.well.length)) (gr ((gi x.found x.well))) β cl)) ((nx + 1 + 1)) (.arr y.2.2.1 y.2.2.2 54 3 ((d9 p.text x ++ y.1)).length (cr ((d9 p.text x ++ y.1))))) ((nx + 1 + 1 + 1)) (.raw y.2.1 (.mapIter (some r) cl (jg β y.1) cl))) ((nx + 1 + 1 + 1 + 1)) (.fact (.map (some r)) (.map nx)))) ([], 0, 0, 0) rfl ?_ ?_ ?_ ?_ ?_ ?_
 ·exact ⟨fun z hz => by simp at hz, List.nodup_nil⟩
 ·simp only [List.append_nil]
  exact zF
 ·simp only [List.append_nil]
  exact zX
 ·rintro ⟨done, wi, vl, wv⟩ hI
  exact (by (try dsimp only); repeat' (first | exact trivial | refine ⟨?_, ?_⟩ | exact .v | exact .any | refine .elem ?_ | exact br _ _ | exact fq _ _ | exact ei _ _ | exact f4 _ (by (try dsimp only); omega) | exact .box (by (try dsimp only); omega) | exact fk | exact dh | exact xl (ny _ _) | exact fa _ | refine f8 ?_ ?_ | exact .arr (by (try dsimp only); omega) | exact .own (by (try dsimp only); omega) | exact .map (by (try dsimp only); omega) | exact fa _ | refine ci ?_ ?_ | exact br _ _))
 ·rintro ⟨done, wi, vl, wv⟩ hI
  exact (by (repeat' (refine l4 ?_ (by (try dsimp only); omega) ?_)); all_goals (first | exact l5 zS | (repeat' (first | exact trivial | refine ⟨?_, ?_⟩ | exact .v | exact .any | refine .elem ?_ | exact br _ _ | exact fq _ _ | exact ei _ _ | exact f4 _ (by (try dsimp only); omega) | exact .box (by (try dsimp only); omega) | exact fk | exact dh | exact xl (ny _ _) | exact fa _ | refine f8 ?_ ?_ | exact .arr (by (try dsimp only); omega) | exact .own (by (try dsimp only); omega) | exact .map (by (try dsimp only); omega) | exact fa _ | refine ci ?_ ?_ | exact br _ _))))
 rintro ⟨done, wi, vl, wv⟩ hI8
 dsimp only at hI8 ⊢
 refine yS fun _ K50 => ?_
 refine yR ?_
 try dsimp only [St.put]
 refine ae rfl (ufi (done := done) rfl rfl zG zG zG (hks0) (hinj) (hI8.1) (fun hend => ?_) (fun y c hym hyk hyd => ?_))
 ·have hdl := wx hp hI8.2 (fun q hq => onceM_ne.1 ((hks0 q).2 (hI8.1 q hq)))
  have hdk : ∀ q, q ∈ done ↔ gi x.found x.well q = true := fun q => ⟨fun hq => onceM_ne.1 ((hks0 q).2 (hI8.1 q hq)), fun hq => hend q ((hks0 q).1 (onceM_ne.2 hq))⟩
  have hpb := uc5 hp ht (fun q hq => (hdk q).1 hq)
  refine yX rfl rfl rfl rfl ?_
  refine yN ?_
  dsimp only [St.put]
  refine K50 _ ?_
  refine yS fun _ K51 => ?_
  refine ar rfl (fun h => by cases h) (fun _ => ?_)
  refine dj ?_
  refine K48 _ ?_
  refine yS fun _ K52 => ?_
  have hpb2 : ∀ y ∈ d9 p.text x ++ done, PBd9 y := fun y hy => by
   rcases List.mem_append.1 hy with hy | hy
   ·exact unz hp ht hy
   exact hpb y hy
  refine yR ?_
  refine yM rfl rfl ?_
  try dsimp only [St.put]
  refine ae rfl (ufg ubu PBd9 mi rfl rfl rfl rfl zG rfl rfl rfl (fun y hy => hy.plain) hpb2 (by first | (rw [List.length_append]; omega) | (simp only [List.nil_append]; omega)) (fun a b _ _ => zf a b _ _) uc2 (fun ys hperm hsort => ?_))
  refine yN ?_
  dsimp only [St.put]
  have hlen := hperm.length_eq
  obtain rfl := ugm hp hI8.2 hdk hperm hsort
  refine K52 _ ?_
  refine ua1 17 (ey p.text x) rfl zG rfl rfl hlen.symm ?_
  dsimp only
  refine ugd [(0, none), (1, none), (2, none), (3, none), (4, none), (5, none), (6, none), (7, none), (10, none), (11, none), (12, none), (13, none), (14, none), (17, none), (18, none), (19, none), (20, none), (21, none)] (fun i => [23, 26, 29, 32].contains i) (fun i => [0, 1, 2, 3, 4, 5, 7, 10, 11, 12, 14, 17, 18, 19, 21].contains i) 15 (rl [8, 2, 5, 2, 5, 11]) [nB] (by kernel_rfl) (by kernel_rfl) ?_
  refine xM rfl rfl rfl rfl rfl ?_
  refine xM rfl rfl rfl rfl rfl ?_
  refine xM rfl rfl rfl rfl rfl ?_
  refine xM rfl rfl rfl rfl rfl ?_
  refine ah rfl rfl rfl rfl (kx rfl rfl) ?_
  refine ah rfl rfl rfl rfl (dn rfl rfl) ?_
  try dsimp only [St.put]
  refine aw rfl rfl rfl rfl (e8 rfl rfl zG (by simp) (by first | rfl | assumption)) ?_
  refine xM rfl rfl rfl rfl rfl ?_
  refine xM rfl rfl rfl rfl rfl ?_
  refine ah rfl rfl rfl rfl (kx rfl rfl) ?_
  refine ah rfl rfl rfl rfl (dn rfl rfl) ?_
  try dsimp only [St.put]
  refine aw rfl rfl rfl rfl (e8 rfl rfl zG (by simp) (by first | rfl | assumption)) ?_
  refine xM rfl rfl rfl rfl rfl ?_
  refine xM rfl rfl rfl rfl rfl ?_
  refine ah rfl rfl rfl rfl (kx rfl rfl) ?_
  refine ah rfl rfl rfl rfl (dn rfl rfl) ?_
  try dsimp only [St.put]
  refine aw rfl rfl rfl rfl (e8 rfl rfl zG (by simp) (by first | rfl | assumption)) ?_
  refine xM rfl rfl rfl rfl rfl ?_
  refine cn ⟨zD, ?_⟩
  dsimp only [St.put]
  refine ugr ws al bo (fl p.text x : Int) (ey p.text x) (d9 p.text x) nB a1 a2 a3 _ rfl (by kernel_rfl) (by kernel_rfl) (by kernel_rfl) rfl rfl rfl rfl rfl rfl rfl rfl rfl rfl rfl rfl rfl zG zG zG zG d1 d2 d3 d4 d5 d6 hw ha hb ?_
  dsimp only
  refine sy [(24, none), (25, none)] 7 (rl [26, 7]) (by kernel_rfl) ?_
  refine ah rfl rfl rfl rfl (kx rfl rfl) ?_
  refine ah rfl rfl rfl rfl (dn rfl rfl) ?_
  refine cn ⟨zD, ?_⟩
  refine rj [26] (by kernel_rfl) (by simp) ?_
  refine sx ?_ ?_
  ·try dsimp only [St.put]
   refine sr rfl rfl rfl rfl (i7 rfl rfl rfl zG (by constructor) rfl zO ?_)
   refine sy [(27, none), (28, none)] 4 (rl [29, 4]) (by kernel_rfl) ?_
   refine ah rfl rfl rfl rfl (kx rfl rfl) ?_
   refine ah rfl rfl rfl rfl (dn rfl rfl) ?_
   refine cn ⟨zD, ?_⟩
   refine rj [29] (by kernel_rfl) (by simp) ?_
   refine sx ?_ ?_
   ·try dsimp only [St.put]
    refine sr rfl rfl rfl rfl (i7 rfl rfl rfl zG (by constructor) rfl zO ?_)
    refine sy [(30, none), (31, none)] 1 (rl [32, 1]) (by kernel_rfl) ?_
    refine ah rfl rfl rfl rfl (kx rfl rfl) ?_
    refine ah rfl rfl rfl rfl (dn rfl rfl) ?_
    refine cn ⟨zD, ?_⟩
    refine rj [32] (by kernel_rfl) (by simp) ?_
    refine sx ?_ ?_
    ·try dsimp only [St.put]
     refine sr rfl rfl rfl rfl (i7 rfl rfl rfl zG (by constructor) rfl zO ?_)
     dsimp only [St.put]
     refine ugs (by kernel_rfl) ?_
     refine ue9 rfl (.inl rfl) zN (ubn zG zG zG zG fun n o q1 q2 q3 q4 h => ?_)
     have hn := hlt n o h
     (try dsimp only)
     repeat (first | exact h | rw [cy (by omega)] | rw [l9 (by omega)])
    exact sw
   exact sw
  exact sw
 have hz0 := zj hym
 subst hz0
 obtain ⟨z, hz⟩ : ∃ z, z = y := ⟨_, rfl⟩
 subst hz
 have hIn : ∀ z ∈ ks, ∀ x ∈ done ++ [z], x ∈ ks := fun z hz x hx => by
  rcases List.mem_append.1 hx with hx | hx
  ·exact hI8.1 x hx
  rw [List.mem_singleton] at hx; exact hx ▸ hz
 have hIu : ∀ z, z ∉ done → (done ++ [z]).Nodup := fun z hz => List.nodup_append.2 ⟨hI8.2, by simp, fun a ha b hb => by
  rw [List.mem_singleton] at hb; subst hb; exact fun e => hz (e ▸ ha)⟩
 have hdl := wx hp hI8.2 (fun q hq => onceM_ne.1 ((hks0 q).2 (hI8.1 q hq)))
 refine yX rfl rfl rfl rfl ?_
 refine yN ?_
 dsimp only [St.put]
 refine K50 _ ?_
 refine yS fun _ K53 => ?_
 refine ar rfl (fun _ => ?_) (fun h => by cases h)
 refine ax ?_
 refine K53 _ ?_
 refine bk ?_
 refine yS fun _ K54 => ?_
 refine yR ?_
 try dsimp only [St.put]
 refine bg rfl (ub2 (fx := nx + 1 + 1 + 1 + 1) (n := nx) rfl rfl zG trivial zG zG trivial (by assumption)) ?_
 refine yX rfl rfl rfl rfl ?_
 try dsimp only [St.put]
 refine ae rfl (dd rfl ?_)
 try dsimp only [St.put]
 refine ae rfl (cw rfl rfl rfl zG rfl rfl (by rfl) ?_)
 refine yN ?_
 dsimp only [St.put]
 refine K54 _ ?_
 refine fj (i := 18) rfl zG zC ?_
 dsimp only
 refine yR ?_
 refine yM rfl rfl ?_
 try dsimp only [St.put]
 refine bg rfl (dl rfl rfl rfl) ?_
 try dsimp only [St.put]
 refine ae rfl (du rfl rfl rfl (by decide) (by decide) zR (by decide) ?_)
 try dsimp only [St.put]
 refine ae rfl (o9 (xs := d9 p.text x ++ done) [z] rfl rfl zG rfl rfl rfl rfl zA zA (fun v3 => ?_))
 refine yA rfl rfl ?_
 refine yN ?_
 dsimp only [St.put]
 simp only [List.append_assoc]
 exact ⟨(done ++ [z], wi + 1, v3, wv), ud3 hyk hyd, ⟨hIn z hyk, hIu z hyd⟩, ⟨⟨rfl, rfl⟩, zF, zB, zN, zX⟩⟩
end Go.Proofs.YtbbdginipiljdaaDoor
namespace Go.AB
open Go Go.RowKit
open Go.AB.Enc (cells)
open Go.PB (av ai PlaceD az bf ba bl am af co bj dc dg)
end Go.AB
namespace Go.Proofs.YtbbdginipiljdaaDoor
set_option maxRecDepth 10000
open Go Go.RowKit Go.AB
open Go.AB.Enc (cells)
open Go.PB (av ai PlaceD az bf ba bl am af co bj dc dg)
theorem unk (l : List Int) (he : l = []) : Pure Tryd.prog 86 [lst l] (lst l) := by
 subst he
 refine c5 Tryd.func86 rfl (fun m => (br _ _)) fun G nx => ?_
 simp only [Tryd.ntmps86, List.length_cons, List.length_nil, Nat.reduceAdd, Nat.reduceSub]
 refine bu fun hlt => ?_
 dsimp only at hlt
 refine yS fun _ K1 => ?_
 refine yR ?_
 refine yA rfl rfl ?_
 refine yN ?_
 dsimp only [St.put]
 refine K1 _ ?_
 refine yS fun _ K2 => ?_
 refine yS fun _ K3 => ?_
 refine yR ?_
 refine yM rfl rfl ?_
 refine ae rfl (ufk rfl rfl fun b _ => ?_)
 refine yN ?_
 dsimp only [St.put]
 refine K3 _ ?_
 refine ar rfl (fun hc => ?_) (fun hc => ?_)
 ·try replace hc := of_decide_eq_true hc
  refine yS fun _ K4 => ?_
  refine yR ?_
  refine yA rfl rfl ?_
  refine yN ?_
  dsimp only [St.put]
  refine K4 _ ?_
  refine aq ?_
  refine qd rfl (ef (by constructor)) zN zS ?_
  exact zW
 try replace hc := of_decide_eq_false hc
 refine ax ?_
 refine K2 _ ?_
 refine yS fun _ K5 => ?_
 refine yR ?_
 try dsimp only [St.put]
 refine ae rfl (ve rfl ?_)
 refine yM rfl rfl ?_
 try dsimp only [St.put]
 refine ae rfl (xw rfl rfl (.inl rfl) rfl (show 1 ≤ 1 by decide) (fun r hr => by cases hr) (by simp) (by simp) ?_)
 refine yA rfl rfl ?_
 refine yN ?_
 dsimp only [St.put]
 refine K5 _ ?_
 refine aq ?_
 refine qd rfl (ef (by constructor)) zN zS ?_
 exact zW
theorem uau (l : List Int) (hne : l ≠ []) (hl : l.length ≤ 1000) (G : Nat → Option GObj) (nx : Nat) : PC Tryd.prog 86 [lst l] G nx fun r G' nx' => r = .own nx 0 l.length ∧ G' = ak G nx (.arr 0 0 3 1 l.length (cr l)) ∧ nx' = nx + 1 := by
 refine iz (ak G nx (.arr 0 0 3 1 l.length (cr l))) (nx + 1) Tryd.func86 rfl (.own (Nat.lt_succ_self _)) zN (fun hlt => (by (repeat' (refine l4 ?_ (by (try dsimp only); omega) ?_)); all_goals (first | exact l5 zS | (repeat' (first | exact trivial | refine ⟨?_, ?_⟩ | exact .v | exact .any | refine .elem ?_ | exact br _ _ | exact fq _ _ | exact ei _ _ | exact f4 _ (by (try dsimp only); omega) | exact .box (by (try dsimp only); omega) | exact fk | exact dh | exact fa _ | refine f8 ?_ ?_ | exact .arr (by (try dsimp only); omega) | exact .own (by (try dsimp only); omega) | exact .map (by (try dsimp only); omega) | exact fa _ | refine ci ?_ ?_ | exact br _ _))))) ?_
 simp only [Tryd.ntmps86, List.length_cons, List.length_nil, Nat.reduceAdd, Nat.reduceSub]
 refine bu fun hlt => ?_
 dsimp only at hlt
 refine yS fun _ K1 => ?_
 refine yR ?_
 refine yA rfl rfl ?_
 refine yN ?_
 dsimp only [St.put]
 refine K1 _ ?_
 refine yS fun _ K2 => ?_
 refine yS fun _ K3 => ?_
 refine yR ?_
 refine yM rfl rfl ?_
 refine ae rfl (ufj (fun e => hne (by simpa using e)) rfl rfl ?_)
 refine yN ?_
 dsimp only [St.put]
 refine K3 _ ?_
 refine ar rfl (fun hc => ?_) (fun hc => ?_)
 ·try replace hc := of_decide_eq_true hc
  refine yS fun _ K4 => ?_
  refine yR ?_
  refine yA rfl rfl ?_
  refine yN ?_
  dsimp only [St.put]
  refine K4 _ ?_
  refine aq ?_
  exact absurd hc (by decide)
 try replace hc := of_decide_eq_false hc
 refine ax ?_
 refine K2 _ ?_
 refine yS fun _ K5 => ?_
 refine yR ?_
 try dsimp only [St.put]
 refine ae rfl (ve rfl ?_)
 refine yM rfl rfl ?_
 try dsimp only [St.put]
 refine ae rfl (ufm l rfl rfl (.inl rfl) rfl rfl hne (by decide) (by omega) (by omega) ?_)
 refine yA rfl rfl ?_
 refine yN ?_
 dsimp only [St.put]
 refine K5 _ ?_
 refine aq ?_
 refine bh rfl (by constructor) zN zS ?_
 rfl
set_option maxHeartbeats 1000000 in
theorem uj6 (p : af) (R C : Nat → Int) (j : Nat) (x : am) (n : Int) (h : ez p) (h0 : 0 < cc p) (hx : p.pages[j]? = some x) (hn : -1000000 ≤ n ∧ n ≤ 1000000) (hR : ∀ i, -1000000 ≤ R i ∧ R i ≤ 1000000) : Pure Tryd.prog 57 [val (gh p R C), .v (.int .i64 (j : Int)), .v (.int .i64 n)] (val (gh p ((bi p).lessR R j n) (eo C j))) := by
 refine c5 Tryd.func57 rfl (fun m => (ei _ _)) fun G nx => ?_
 simp only [Tryd.ntmps57, List.length_cons, List.length_nil, Nat.reduceAdd, Nat.reduceSub]
 refine bu fun hlt => ?_
 dsimp only at hlt
 have hjl := (List.getElem?_eq_some_iff.1 hx).1
 have hrx := wh hx
 have hn1 := h.nf
 have hn2 := h.ns
 have hnp := h.np
 have hnr : cc p = p.firsts.length + p.seconds.length := rfl
 have hrl := zb p x
 have hl1 := jq (cc p) R
 have hl2 := jq p.pages.length C
 have hne2 : cx p.pages.length C ≠ [] := fun e => by rw [e] at hl2; simp at hl2; omega
 have hne1 : cx (cc p) R ≠ [] := fun e => by rw [e] at hl1; simp at hl1; omega
 refine yS fun _ K1 => ?_
 refine yR ?_
 try dsimp only [St.put]
 refine ae rfl (uar rfl rfl ?_)
 try dsimp only [St.put]
 refine ae rfl (dd rfl ?_)
 refine yN ?_
 dsimp only [St.put]
 refine K1 _ ?_
 refine yS fun _ K2 => ?_
 refine g8 [(0, none), (1, none), (3, none), (4, none), (2, none), (6, none), (5, none), (7, none), (8, none), (9, none)] (fun i => [5, 7, 9].contains i) (fun i => [2, 5, 7, 9].contains i) (fun i => [0, 3, 6, 8].contains i) [nx] (by kernel_rfl) (by kernel_rfl) ?_
 refine ah rfl rfl rfl rfl (dn rfl rfl) ?_
 try dsimp only [St.put]
 refine aw rfl rfl rfl rfl (e8 rfl rfl zG (by simp) (by first | rfl | assumption)) ?_
 refine ah rfl rfl rfl rfl (dn rfl rfl) ?_
 try dsimp only [St.put]
 refine aw rfl rfl rfl rfl (e8 rfl rfl zG (by simp) (by first | rfl | assumption)) ?_
 refine jf ?_
 try dsimp only [St.put]
 refine i9 rfl rfl rfl (vd rfl rfl rfl (uau (cx (cc p) R) hne1 (by omega) _ _) ⟨zD, ?_⟩)
 refine ed rfl rfl rfl rfl (dn rfl rfl) ?_
 try dsimp only [St.put]
 refine g9 rfl rfl rfl rfl (vd rfl rfl rfl (uau (cx p.pages.length C) hne2 (by omega) _ _) ?_)
 try dsimp only [St.put]
 refine g9 rfl rfl rfl rfl (i7 rfl rfl rfl zG (by constructor) rfl zO ?_)
 refine ed rfl rfl rfl rfl (dn rfl rfl) ?_
 try dsimp only [St.put]
 refine g9 rfl rfl rfl rfl (i7 rfl rfl rfl zG (by constructor) rfl (by show 1 < 3; decide) ?_)
 refine je ?_
 dsimp only [St.put]
 simp only [hl1, hl2]
 refine K2 _ ?_
 refine yS fun _ K3 => ?_
 refine yS fun _ K4 => ?_
 refine yR ?_
 refine aa rfl (dn rfl rfl) ?_
 try dsimp only [St.put]
 refine bg rfl (e8 rfl rfl zG trivial (by first | rfl | assumption)) ?_
 refine yM rfl rfl ?_
 refine aa rfl (cb rfl rfl rfl rfl (ca (by assumption)) (Enc.len _)) ?_
 refine yL rfl rfl rfl ?_
 refine aa rfl (bp rfl rfl (List.length_map _)) ?_
 refine yM rfl rfl ?_
 refine yN ?_
 dsimp only [St.put]
 refine K4 _ ?_
 refine bk ?_
 refine cp 24 ?_
 refine zQ ?_
 refine dq ((ak (ak (ak (ak G nx (.box 2 [.own (nx + 1 + 1) 0 (cc p), .own (nx + 1 + 1 + 1) 0 p.pages.length, lst (p.pages.map (da p))])) (nx + 1) (.box 0 [.list [] .nil, .list [] .nil, .list [] .nil])) (nx + 1 + 1) (.arr 0 0 3 1 (cc p) (cr (cx (cc p) (R))))) (nx + 1 + 1 + 1) (.arr 0 0 3 1 p.pages.length (cr (cx p.pages.length C))))) zX ?_
 dsimp only
 refine dp (X := Nat) (fun k => k ≤ (da p x).length ∧ ∀ i, -1000000 - k * 1000000 ≤ lu R n ((da p x).take k) i ∧ lu R n ((da p x).take k) i ≤ 1000000 + k * 1000000) (fun k => (da p x).length - k) (fun k => [(8, .any), (23, .v (.int .i64 (k : Int)))]) (fun k G' => (ak (ak (ak (ak G nx (.box 2 [.own (nx + 1 + 1) 0 (cc p), .own (nx + 1 + 1 + 1) 0 p.pages.length, lst (p.pages.map (da p))])) (nx + 1) (.box 0 [.list [] .nil, .list [] .nil, .list [] .nil])) (nx + 1 + 1) (.arr 0 k 3 1 (cc p) (cr (cx (cc p) ((lu R n ((da p x).take k))))))) (nx + 1 + 1 + 1) (.arr 0 0 3 1 p.pages.length (cr (cx p.pages.length C))))) 0 rfl ?_ ?_ ?_ ?_ ?_ ?_
 ·exact ⟨Nat.zero_le _, fun i => by have := hR i; simp only [List.take_zero, uh7]; omega⟩
 ·exact zF
 ·exact zX
 ·rintro k hI
  exact zL
 ·rintro k hI
  exact zH
 rintro k hI
 dsimp only at hI ⊢
 refine yS fun _ K5 => ?_
 refine yR ?_
 refine aa rfl (cv rfl rfl rfl) ?_
 refine yN ?_
 dsimp only [St.put]
 refine K5 _ ?_
 refine yS fun _ K6 => ?_
 refine ar rfl (fun hc => ?_) (fun hc => ?_)
 ·replace hc := of_decide_eq_true hc
  obtain ⟨zn, hz, hz6⟩ := za h hx (k := k) (by omega)
  have hst := uh6 (R := R) (n := n) hz
  rw [Int.toNat_natCast] at hst
  have hI2 : ∀ i, -1000000 - ((k + 1 : Nat) : Int) * 1000000 ≤ lu R n ((da p x).take (k + 1)) i ∧ lu R n ((da p x).take (k + 1)) i ≤ 1000000 + ((k + 1 : Nat) : Int) * 1000000 := fun i => by
   rw [hst]
   have h1 := hI.2 i
   have h2 := hI.2 zn
   dsimp only
   cases decide (i = zn)
   ·rw [cond_false]
    omega
   rw [cond_true]
   omega
  have hI3 := hI.2 zn
  obtain ⟨S, hS⟩ : ∃ S, lu R n ((da p x).take k) = S := ⟨_, rfl⟩
  rw [hS] at hst hI3 ⊢
  have hset := yo S (S zn - n) hz6
  rw [← hst] at hset
  refine ax ?_
  refine K6 _ ?_
  refine yS fun _ K7 => ?_
  refine bk ?_
  refine yS fun _ K8 => ?_
  refine yR ?_
  refine aa rfl (cb rfl rfl rfl rfl (ca (by assumption)) (Enc.len _)) ?_
  refine yL rfl rfl rfl ?_
  refine yA rfl rfl ?_
  refine yN ?_
  dsimp only [St.put]
  refine K8 _ ?_
  refine yR ?_
  refine aa rfl (dn rfl rfl) ?_
  try dsimp only [St.put]
  refine bg rfl (e8 rfl rfl zG trivial (by first | rfl | assumption)) ?_
  refine yM rfl rfl ?_
  try dsimp only [St.put]
  refine aa rfl (pv rfl rfl zG rfl rfl hz6) ?_
  try dsimp only [St.put]
  refine bg rfl (ka rfl rfl zG (by simp) (ums (by rw [Nat.mul_one]; exact nl S hz6))) ?_
  refine yM rfl rfl ?_
  refine aa rfl (i0 rfl rfl rfl (by omega)) ?_
  try dsimp only [St.put]
  refine aa rfl (pv rfl rfl zG rfl rfl hz6) ?_
  try dsimp only [St.put]
  refine ae rfl (uan (k := zn) (j := 0) (z := S zn) (z' := S zn - n) rfl rfl rfl zG rfl rfl (nl S hz6) rfl (by decide) rfl ?_)
  refine yN ?_
  dsimp only [St.put]
  refine K7 _ ?_
  refine yR ?_
  refine aa rfl (cg rfl rfl rfl (by omega)) ?_
  refine yM rfl rfl ?_
  refine yN ?_
  dsimp only [St.put]
  rw [hset]
  exact ⟨k + 1, by omega, ⟨by omega, hI2⟩, ⟨⟨rfl, rfl⟩, zF, zB, zN, zX⟩⟩
 replace hc := of_decide_eq_false hc
 rw [gw (show (da p x).length ≤ k by omega), ← ulx h hx]
 refine dj ?_
 refine K3 _ ?_
 refine yS fun _ K9 => ?_
 refine yR ?_
 refine aa rfl (dn rfl rfl) ?_
 try dsimp only [St.put]
 refine bg rfl (e8 rfl rfl zG trivial (by first | rfl | assumption)) ?_
 refine yM rfl rfl ?_
 try dsimp only [St.put]
 refine aa rfl (pv rfl rfl zG rfl rfl hjl) ?_
 try dsimp only [St.put]
 refine ae rfl (uan (k := j) (j := 0) (z := C j) (z' := 0) rfl rfl rfl zG rfl rfl (nl C hjl) rfl (by decide) rfl ?_)
 refine yN ?_
 dsimp only [St.put]
 rw [show (cx p.pages.length C).set j 0 = cx p.pages.length (eo C j) from yo C 0 hjl]
 refine K9 _ ?_
 refine yS fun _ K10 => ?_
 refine sq nx 0 (cx (cc p) ((bi p).lessR R j n)) zG rfl zG (by omega) rfl rfl (jq _ _).symm ?_
 refine sq nx 1 (cx p.pages.length (eo C j)) zG rfl zG (by omega) rfl rfl (jq _ _).symm ?_
 dsimp only [List.set_cons_zero, List.set_cons_succ]
 refine yR ?_
 try dsimp only [St.put]
 refine bg rfl (io rfl rfl zG trivial (by rfl)) ?_
 try dsimp only [St.put]
 refine ae rfl (cw rfl rfl rfl zG rfl rfl (by rfl) ?_)
 refine yN ?_
 dsimp only [St.put]
 refine K10 _ ?_
 refine aq ?_
 refine qd rfl (jv rfl zG (by rfl) zC rfl) zN zS ?_
 exact zW
set_option maxHeartbeats 1000000 in
theorem uj7 (p : af) (R C : Nat → Int) (j : Nat) (x : am) (n : Int) (h : ez p) (h0 : cc p = 0) (hx : p.pages[j]? = some x) (hn : -1000000 ≤ n ∧ n ≤ 1000000) (hR : ∀ i, -1000000 ≤ R i ∧ R i ≤ 1000000) : Pure Tryd.prog 57 [val (gh p R C), .v (.int .i64 (j : Int)), .v (.int .i64 n)] (val (gh p ((bi p).lessR R j n) (eo C j))) := by
 refine c5 Tryd.func57 rfl (fun m => (ei _ _)) fun G nx => ?_
 simp only [Tryd.ntmps57, List.length_cons, List.length_nil, Nat.reduceAdd, Nat.reduceSub]
 refine bu fun hlt => ?_
 dsimp only at hlt
 have hjl := (List.getElem?_eq_some_iff.1 hx).1
 have hrx := wh hx
 have hn1 := h.nf
 have hn2 := h.ns
 have hnp := h.np
 have hnr : cc p = p.firsts.length + p.seconds.length := rfl
 have hrl := zb p x
 have hl1 := jq (cc p) R
 have hl2 := jq p.pages.length C
 have hne2 : cx p.pages.length C ≠ [] := fun e => by rw [e] at hl2; simp at hl2; omega
 have he1 : cx (cc p) R = [] := by rw [h0]; rfl
 refine yS fun _ K1 => ?_
 refine yR ?_
 try dsimp only [St.put]
 refine ae rfl (uar rfl rfl ?_)
 try dsimp only [St.put]
 refine ae rfl (dd rfl ?_)
 refine yN ?_
 dsimp only [St.put]
 refine K1 _ ?_
 refine yS fun _ K2 => ?_
 refine g8 [(0, none), (1, none), (3, none), (4, none), (2, none), (6, none), (5, none), (7, none), (8, none), (9, none)] (fun i => [5, 7, 9].contains i) (fun i => [2, 5, 7, 9].contains i) (fun i => [0, 3, 6, 8].contains i) [nx] (by kernel_rfl) (by kernel_rfl) ?_
 refine ah rfl rfl rfl rfl (dn rfl rfl) ?_
 try dsimp only [St.put]
 refine aw rfl rfl rfl rfl (e8 rfl rfl zG (by simp) (by first | rfl | assumption)) ?_
 refine ah rfl rfl rfl rfl (dn rfl rfl) ?_
 try dsimp only [St.put]
 refine aw rfl rfl rfl rfl (e8 rfl rfl zG (by simp) (by first | rfl | assumption)) ?_
 refine jf ?_
 try dsimp only [St.put]
 refine i9 rfl rfl rfl (ay rfl rfl rfl (unk (cx (cc p) R) he1) ⟨zD, ?_⟩)
 refine ed rfl rfl rfl rfl (dn rfl rfl) ?_
 try dsimp only [St.put]
 refine g9 rfl rfl rfl rfl (vd rfl rfl rfl (uau (cx p.pages.length C) hne2 (by omega) _ _) ?_)
 try dsimp only [St.put]
 refine g9 rfl rfl rfl rfl (i7 rfl rfl rfl zG (by constructor) rfl zO ?_)
 refine ed rfl rfl rfl rfl (dn rfl rfl) ?_
 try dsimp only [St.put]
 refine g9 rfl rfl rfl rfl (i7 rfl rfl rfl zG (by constructor) rfl (by show 1 < 3; decide) ?_)
 refine je ?_
 dsimp only [St.put]
 simp only [hl1, hl2]
 refine K2 _ ?_
 refine yS fun _ K3 => ?_
 refine yS fun _ K4 => ?_
 refine yR ?_
 refine aa rfl (dn rfl rfl) ?_
 try dsimp only [St.put]
 refine bg rfl (e8 rfl rfl zG trivial (by first | rfl | assumption)) ?_
 refine yM rfl rfl ?_
 refine aa rfl (cb rfl rfl rfl rfl (ca (by assumption)) (Enc.len _)) ?_
 refine yL rfl rfl rfl ?_
 refine aa rfl (bp rfl rfl (List.length_map _)) ?_
 refine yM rfl rfl ?_
 refine yN ?_
 dsimp only [St.put]
 refine K4 _ ?_
 refine bk ?_
 refine cp 24 ?_
 refine zQ ?_
 refine dp (X := Nat) (fun k => k ≤ (da p x).length) (fun k => (da p x).length - k) (fun k => [(8, .any), (23, .v (.int .i64 (k : Int)))]) (fun k G' => G') 0 rfl ?_ ?_ (fun _ _ h => h) ?_ ?_ ?_
 ·exact Nat.zero_le _
 ·exact zF
 ·rintro k hI
  exact zL
 ·exact fun _ _ _ _ h => .inl h
 rintro k hI
 dsimp only at hI ⊢
 refine yS fun _ K5 => ?_
 refine yR ?_
 refine aa rfl (cv rfl rfl rfl) ?_
 refine yN ?_
 dsimp only [St.put]
 refine K5 _ ?_
 refine yS fun _ K6 => ?_
 refine ar rfl (fun hc => ?_) (fun hc => ?_)
 ·replace hc := of_decide_eq_true hc
  obtain ⟨zn, hz, hz6⟩ := za h hx (k := k) (by omega)
  omega
 replace hc := of_decide_eq_false hc
 refine dj ?_
 refine K3 _ ?_
 refine yS fun _ K7 => ?_
 refine yR ?_
 refine aa rfl (dn rfl rfl) ?_
 try dsimp only [St.put]
 refine bg rfl (e8 rfl rfl zG trivial (by first | rfl | assumption)) ?_
 refine yM rfl rfl ?_
 try dsimp only [St.put]
 refine aa rfl (pv rfl rfl zG rfl rfl hjl) ?_
 try dsimp only [St.put]
 refine ae rfl (uan (k := j) (j := 0) (z := C j) (z' := 0) rfl rfl rfl zG rfl rfl (nl C hjl) rfl (by decide) rfl ?_)
 refine yN ?_
 dsimp only [St.put]
 rw [show (cx p.pages.length C).set j 0 = cx p.pages.length (eo C j) from yo C 0 hjl]
 refine K7 _ ?_
 refine yS fun _ K8 => ?_
 refine sq nx 1 (cx p.pages.length (eo C j)) zG rfl zG (by omega) rfl rfl (jq _ _).symm ?_
 dsimp only [List.set_cons_zero, List.set_cons_succ]
 rw [show cx (cc p) R = cx (cc p) ((bi p).lessR R j n) by rw [h0]; rfl]
 refine yR ?_
 try dsimp only [St.put]
 refine bg rfl (io rfl rfl zG trivial (by rfl)) ?_
 try dsimp only [St.put]
 refine ae rfl (cw rfl rfl rfl zG rfl rfl (by rfl) ?_)
 refine yN ?_
 dsimp only [St.put]
 refine K8 _ ?_
 refine aq ?_
 refine qd rfl (jv rfl zG (by rfl) zC rfl) zN zS ?_
 exact zW
theorem ze (p : af) (R C : Nat → Int) (j : Nat) (x : am) (n : Int) (h : ez p) (hx : p.pages[j]? = some x) (hn : -1000000 ≤ n ∧ n ≤ 1000000) (hR : ∀ i, -1000000 ≤ R i ∧ R i ≤ 1000000) : Pure Tryd.prog 57 [val (gh p R C), .v (.int .i64 (j : Int)), .v (.int .i64 n)] (val (gh p ((bi p).lessR R j n) (eo C j))) := by
 by_cases h0 : cc p = 0
 ·exact uj7 p R C j x n h h0 hx hn hR
 exact uj6 p R C j x n h (by omega) hx hn hR
end Go.Proofs.YtbbdginipiljdaaDoor
namespace Go.AB
open Go Go.RowKit
open Go.AB.Enc (cells)
def fu (n : Nat) (F : GObj) (P : Program) (f : FuncId) (args : List C) (r : C) : Prop := ∀ G nx, G n = some F → n < nx → PC P f args G nx fun r' G' nx' => r' = r ∧ G' = G ∧ nx' = nx
theorem ec {n : Nat} {F : GObj} {P : Program} {o : Oper} {st : St} {f : FuncId} [Fun P f] {fv : Operand} {args : List Operand} {ats : Array TypeId} {caps al : List C} {K : St → Prop} {r : C} (ho : o.op = .call { callee := .value fv, args := args.toArray, argTypes := ats }) (hf : evC st fv = .fn (.func f) caps) (has : args.map (evC st) ++ caps = al)
  (hp : fu n F P f al r) (hG : st.G n = some F) (hn : n < st.nx) (h : K (st.put o.dst r)) : EStep P o st K := um7 ho hf has (hp _ _ hG hn) h
theorem udo {P : Program} {o : Oper} {st : St} {t : TypeId} {x i : Operand} {m j : Nat} {v : Value} {cs : List C} {d : C} {ds : List C} {e : TypeId} {ik : IntKind} {n : Int} {k sz : Nat} {ag : Bool} [ArrT P t m e] [Ty P e ag sz] (ho : o.op = .indexAddr t x i) (hx : evC st x = .v v) (hG : st.G j = some (.fact v (.elem cs))) (hi : evC st i = .v (.int ik n)) (hn : n = (k : Int)) (hk : k < m) (hd : cs.drop (k * sz) = d :: ds) : NStep P o st (.elem (d :: ds)) := fun E w a hs => by
 subst hn
 have e1 := (hi ▸ hs.ev i).v_inv
 have e0 := (hx ▸ hs.ev x).v_inv
 obtain ⟨b, off, us, hv, h1, h2, h3, h4, _⟩ := (hs.g.obj j _ hG).2.elem_inv
 refine ⟨.pointer (some ⟨b, off + k * sz, none⟩), hd ▸ R.elem_drop h1 h2 h3 h4 (k * sz) (by rw [hd]; simp), fun w' => ?_⟩
 have q1 := ArrT.spec (P := P) (t := t) (n := m) (e := e)
 have q2 := Ty.size (P := P) (w := w') (t := e) (ag := ag) (n := sz)
 have q3 : (k : Int) < (m : Int) := by omega
 simp [execOp, ho, Instr.indexAt, Instr.sureAddr, e0, hv, e1, asIntOf, run_underlying q1, q2, q3, ri]
 intro h; omega
end Go.AB
namespace Go.AB
open Go Go.RowKit
open Go.AB.Enc (cells)
open Go.PB (av ai PlaceD az bf ba bl am af co bj dc dg)
/-- the readers that have been looked at -/
def gx (p : af) : Nat → List bl
 | 0 => []
 | 1 => p.firsts
 | _ => p.firsts ++ p.seconds
theorem uiz {p : af} : ∀ {k : Nat}, k < 2 → gx p (k + 1) = gx p k ++ d8 p (decide (k = 1))
 | 0, _ => rfl
 | 1, _ => rfl
 | k + 2, h => by omega
def okR (l : List bl) : Prop := l.all gq = true ∧ (l.map (·.id)).Nodup
theorem ukz {l : List bl} {r : bl} (h : okR l) (h1 : gq r = true) (h2 : r.id ∉ l.map (·.id)) : okR (l ++ [r]) := by
 refine ⟨by rw [List.all_append, h.1]; simp [h1], ?_⟩
 rw [List.map_append, List.nodup_append]
 refine ⟨h.2, by simp, fun a ha b hb e => ?_⟩
 simp only [List.map_cons, List.map_nil, List.mem_singleton] at hb
 subst hb; subst e
 exact h2 ha
theorem uiy {p : af} : ∀ {k i : Nat}, k < 2 → (gx p k ++ (d8 p (decide (k = 1))).take i) <+: (p.firsts ++ p.seconds)
 | 0, i, _ => by
  show [] ++ p.firsts.take i <+: p.firsts ++ p.seconds
  rw [List.nil_append]
  exact (List.take_prefix i p.firsts).trans (List.prefix_append _ _)
 | 1, i, _ => (List.prefix_append_right_inj p.firsts).2 (List.take_prefix i p.seconds)
 | k + 2, _, h => by omega
theorem ujn {p : af} {k i : Nat} {r : bl} (hk : k < 2) (hr : (d8 p (decide (k = 1)))[i]? = some r) (hb : gq r = false ∨ r.id ∈ (gx p k ++ (d8 p (decide (k = 1))).take i).map (·.id)) : fw p = false := by
 have hpre := uiy (p := p) (k := k) (i := i + 1) hk
 rw [List.take_add_one, hr, Option.toList_some, ← List.append_assoc] at hpre
 unfold fw jw
 rcases hb with h | h
 ·have : (p.firsts ++ p.seconds).all gq = false := List.all_eq_false.2 ⟨r, hpre.subset (by simp), by rw [h]; simp⟩
  rw [this]; simp
 have : ¬ ((p.firsts ++ p.seconds).map (·.id)).Nodup := fun hn => by
  have h2 := hn.sublist (List.Sublist.map (·.id) hpre.sublist)
  rw [List.map_append, List.nodup_append] at h2
  exact h2.2.2 _ h r.id (by simp) rfl
 rw [decide_eq_false this]; simp
theorem ulo {p : af} {b : Bool} (h : ¬ (d8 p b).length ≤ 3) : fw p = false := by
 unfold fw jw
 cases b
 ·rw [decide_eq_false (show ¬ p.firsts.length ≤ 3 from h)]; simp
 rw [decide_eq_false (show ¬ p.seconds.length ≤ 3 from h)]; simp
theorem uj1 {p : af} (h : ¬ p.pages.length ≤ 8) : fw p = false := by
 unfold fw
 rw [decide_eq_false h]; simp
theorem umg {l : List bl} (r : bl) : kd (ir (l.map (·.id))) r.id (.v (.bool true)) = ir ((l ++ [r]).map (·.id)) := by
 funext x
 unfold kd ir
 rw [List.map_append]
 by_cases hx : x = r.id
 ·simp [hx]
 simp [hx]
/-- a side of a page is as it may be -/
def tr (p : af) (x : am) (b : Bool) : Bool := inB (el b x) (-1) (((d8 p b).length : Int) - 1) && ig p.text x (el b x) (di b x)
def qq (p : af) (last : Int) (x : am) : Bool := decide (last < x.fr) && decide (x.fr ≤ x.to) && decide (x.to < (mx p.text : Int))
def pk (p : af) (last : Int) (x : am) : Nat → Bool
 | 0 => qq p last x
 | k + 1 => pk p last x k && tr p x (decide (k = 1))
theorem uim (p : af) (last : Int) (x : am) : pk p last x 2 = lx p last x := by
 show ((qq p last x && tr p x false) && tr p x true) = _
 unfold qq tr lx
 cases decide (last < x.fr) <;> cases decide (x.fr ≤ x.to) <;> cases decide (x.to < (mx p.text : Int)) <;> simp [d8, el, di, Bool.and_assoc]
/-- where proofs are opened -/
def jx (p : af) : C := bif decide (cm p = 0) then .elem [lst p.text, lst p.firsts, lst p.seconds, lst p.pages, lst (p.pages.map fun x => (fl p.text x : Int)), lst (p.pages.map (ey p.text)), lst (p.pages.map (d9 p.text))] else .v (.pointer none)
theorem udb (m : Nat) (p : af) : C.low m (jx p) := by
 unfold jx
 cases decide (cm p = 0)
 ·exact .v
 refine .elem fun c hc => ?_
 simp only [List.mem_cons, List.not_mem_nil, or_false] at hc
 rcases hc with rfl | rfl | rfl | rfl | rfl | rfl | rfl <;> exact br m _
theorem wz {p : af} (h : cm p = 0) : jx p = .elem [lst p.text, lst p.firsts, lst p.seconds, lst p.pages, lst (p.pages.map fun x => (fl p.text x : Int)), lst (p.pages.map (ey p.text)), lst (p.pages.map (d9 p.text))] := by unfold jx; rw [decide_eq_true h]; rfl
theorem uc {p : af} (h : cm p ≠ 0) : jx p = .v (.pointer none) := by unfold jx; rw [decide_eq_false h]; rfl
theorem ym {α : Type} {l : List α} {k : Nat} {x : α} (h : l[k]? = some x) : l.take (k + 1) = l.take k ++ [x] := by rw [List.take_add_one, h]; rfl
theorem nil_len {α : Type} {l : List α} : l = [] ↔ (l.length : Int) = 0 := by
 constructor
 ·rintro rfl; rfl
 intro h; exact List.eq_nil_of_length_eq_zero (by omega)
theorem jc {t : ai} {x : am} {l : List PlaceD} {i : Nat} {q : PlaceD} (h : l[i]? = some q) : jl t x l i = (fy t q && ib t x q && (decide (i = 0) || match l[i - 1]? with | none => true | some a => ne a q)) := by unfold jl; rw [h]; rfl
theorem unp {p : af} (h : dv p.text = false) : cm p = 10 := by unfold cm; rw [h]; rfl
theorem xz {p : af} (h : dv p.text = true) (hp : fw p = false) : cm p = 90 := by unfold cm; rw [h, hp]; rfl
theorem unq {p : af} (h : dv p.text = true) (hp : fw p = true) : cm p = 0 := by unfold cm; rw [h, hp]; rfl
end Go.AB
namespace Go.Proofs.YtbbdginipiljdaaDoor
set_option maxRecDepth 10000
open Go Go.RowKit Go.AB
open Go.AB.Enc (cells)
open Go.PB (av ai PlaceD az bf ba bl am af co bj dc dg)
set_option maxHeartbeats 4000000 in
theorem oz (n : Nat) (p : af) : fu n fm Tryd.prog 45 [val p] (.tup [jx p, .v (.int .i64 (cm p))]) := fun G nx hF hnx => by
 refine iz (G) (nx) Tryd.func45 rfl (.tup (ci (udb _ _) (ci .v dh))) zN (fun hlt => zH) ?_
 simp only [Tryd.ntmps45, List.length_cons, List.length_nil, Nat.reduceAdd, Nat.reduceSub]
 refine bu fun hlt => ?_
 dsimp only at hlt
 refine yS fun _ K1 => ?_
 refine yR ?_
 try dsimp only [St.put]
 refine yB rfl rfl rfl ?_
 refine yA rfl rfl ?_
 refine yA rfl rfl ?_
 refine yN ?_
 dsimp only [St.put]
 refine K1 _ ?_
 refine uf9 ?_
 refine yS fun _ K2 => ?_
 refine yS fun _ K3 => ?_
 refine yR ?_
 refine yF rfl rfl rfl rfl ?_
 try dsimp only [St.put]
 refine bg rfl (c := gu p.text) (ju (cs := cells p) rfl rfl (show 1 ≤ 4 by decide)) ?_
 try dsimp only [St.put]
 refine ae rfl (ay rfl rfl rfl (ul5 p.text) ?_)
 refine yA rfl rfl ?_
 refine yN ?_
 dsimp only [St.put]
 refine K3 _ ?_
 refine yS fun _ K4 => ?_
 refine yR ?_
 refine yM rfl rfl ?_
 refine aa rfl (ff rfl rfl rfl) ?_
 refine yN ?_
 dsimp only [St.put]
 refine K4 _ ?_
 refine ar rfl (fun hc => ?_) (fun hc => ?_)
 ·have ht : dv p.text = false := by
   have h0 := j8 hc
   unfold jb at h0
   cases h1 : dv p.text
   ·rfl
   rw [h1] at h0; exact absurd rfl h0
  have hE : cm p = 10 := unp ht
  have hR : jb p.text = 10 := by simp [jb, ht]
  refine yS fun _ K5 => ?_
  refine yR ?_
  refine yM rfl rfl ?_
  refine yA rfl rfl ?_
  refine yA rfl rfl ?_
  refine yN ?_
  dsimp only [St.put]
  refine K5 _ ?_
  refine aq ?_
  refine i6 rfl (by constructor) (by constructor) zN zS ?_ ?_
  ·rw [uc (by rw [hE]; decide)]
  rw [hE, hR]
 have ht : dv p.text = true := by
  have h0 := ip hc
  unfold jb at h0
  cases h1 : dv p.text
  ·rw [h1] at h0; cases h0
  rfl
 obtain ⟨hl1, hl2, hl3⟩ := mf ht
 have hll : mx p.text ≤ 60 := vy ht _ (Nat.le_refl _)
 refine ax ?_
 refine K2 _ ?_
 refine yS fun _ K6 => ?_
 refine yR ?_
 refine yF rfl rfl rfl rfl ?_
 try dsimp only [St.put]
 refine bg rfl (c := gu p.text) (ju (cs := cells p) rfl rfl (show 1 ≤ 4 by decide)) ?_
 try dsimp only [St.put]
 refine ae rfl (ay rfl rfl rfl (uke p.text ht) ?_)
 refine yM rfl rfl ?_
 refine yX rfl rfl rfl rfl ?_
 refine yX rfl rfl rfl rfl ?_
 refine yA rfl rfl ?_
 refine yA rfl rfl ?_
 refine yN ?_
 dsimp only [St.put]
 refine K6 _ ?_
 refine yS fun _ K7 => ?_
 refine yR ?_
 try dsimp only [St.put]
 refine ae rfl (uap (α := Int) rfl ?_)
 refine yA rfl rfl ?_
 refine yN ?_
 dsimp only [St.put]
 refine K7 _ ?_
 refine yS fun _ K8 => ?_
 refine yS fun _ K9 => ?_
 refine yR ?_
 try dsimp only [St.put]
 refine bg rfl (nm (n := 6) (m := n) rfl rfl zG rfl) ?_
 refine yM rfl rfl ?_
 refine yN ?_
 dsimp only [St.put]
 refine K9 _ ?_
 refine bk ?_
 refine cp 38 ?_
 refine zQ ?_
 refine dq (ak G nx (iv Tryd.prog 3 0 fun _ => none)) zX ?_
 dsimp only
 refine dp (X := Nat) (fun k => k ≤ 2 ∧ okR (gx p k) ∧ ((0 < k → p.firsts.length ≤ 3) ∧ (1 < k → p.seconds.length ≤ 3))) (fun k => 2 - k) (fun k => [(9, .any), (11, .any), (37, .v (.int .i64 (k : Int)))]) (fun k G' => (ak G (nx) (iv Tryd.prog 3 (((gx p k).length)) (ir (((gx p k)).map (·.id)))))) 0 rfl ?_ ?_ ?_ ?_ ?_ ?_
 ·exact ⟨by omega, ⟨rfl, List.nodup_nil⟩, fun h => absurd h (Nat.lt_irrefl _), fun h => by omega⟩
 ·exact zF
 ·rw [show ir ((gx p 0).map (·.id)) = fun _ => none from uef]
  exact zX
 ·rintro k hI
  exact (by (try dsimp only); repeat' (first | exact trivial | refine ⟨?_, ?_⟩ | exact .v | exact .any | refine .elem ?_ | exact br _ _ | exact fq _ _ | exact ei _ _ | exact f4 _ (by (try dsimp only); omega) | exact .box (by (try dsimp only); omega) | exact fk | exact dh | exact iu (jy _ _) | refine f8 ?_ ?_ | exact .arr (by (try dsimp only); omega) | exact .own (by (try dsimp only); omega) | exact .map (by (try dsimp only); omega) | exact fa _ | refine ci ?_ ?_ | exact br _ _))
 ·rintro k hI
  exact (by (repeat' (refine l4 ?_ (by (try dsimp only); omega) ?_)); all_goals (first | exact l5 zS | (repeat' (first | exact trivial | refine ⟨?_, ?_⟩ | exact .v | exact .any | refine .elem ?_ | exact br _ _ | exact fq _ _ | exact ei _ _ | exact f4 _ (by (try dsimp only); omega) | exact .box (by (try dsimp only); omega) | exact fk | exact dh | exact iu (jy _ _) | refine f8 ?_ ?_ | exact .arr (by (try dsimp only); omega) | exact .own (by (try dsimp only); omega) | exact .map (by (try dsimp only); omega) | exact fa _ | refine ci ?_ ?_ | exact br _ _))))
 rintro k hI
 dsimp only at hI ⊢
 refine yS fun _ K10 => ?_
 refine yR ?_
 refine aa rfl (cv rfl rfl rfl) ?_
 refine yN ?_
 dsimp only [St.put]
 refine K10 _ ?_
 refine yS fun _ K11 => ?_
 refine ar rfl (fun hc => ?_) (fun hc => ?_)
 ·replace hc := of_decide_eq_true hc
  have hk : k < 2 := by omega
  refine ax ?_
  refine K11 _ ?_
  refine yS fun _ K12 => ?_
  refine bk ?_
  refine yS fun _ K13 => ?_
  refine yR ?_
  refine aa rfl (w9 (k := k) (m := 2) (sz := 3) rfl rfl rfl rfl hk (v8 hk)) ?_
  try dsimp only [St.put]
  refine ae rfl (dd rfl ?_)
  try dsimp only [St.put]
  refine ae rfl (cw rfl rfl rfl zG rfl rfl (by rfl) ?_)
  refine yN ?_
  dsimp only [St.put]
  refine K13 _ ?_
  refine fj (i := 9) rfl zG zC ?_
  dsimp only
  refine yS fun _ K14 => ?_
  refine yS fun _ K15 => ?_
  refine yR ?_
  refine yF rfl rfl rfl rfl ?_
  refine yL rfl rfl rfl ?_
  refine yE rfl rfl rfl ?_
  try dsimp only [St.put]
  refine ae rfl (ay rfl rfl rfl (pn (decide (k = 1)) p) ?_)
  refine aa rfl (bp rfl rfl (List.length_map _)) ?_
  refine aa rfl (iq rfl rfl rfl) ?_
  refine yN ?_
  dsimp only [St.put]
  refine K15 _ ?_
  refine ar rfl (fun hc => ?_) (fun hc => ?_)
  ·have hs3 : ¬ (d8 p (decide (k = 1))).length ≤ 3 := by
    have := of_decide_eq_true hc
    omega
   have hE : cm p = 90 := xz ht (ulo hs3)
   refine yS fun _ K16 => ?_
   refine yR ?_
   refine yA rfl rfl ?_
   refine yA rfl rfl ?_
   refine yN ?_
   dsimp only [St.put]
   refine K16 _ ?_
   refine aq ?_
   refine i6 rfl (by constructor) (by constructor) zN zS ?_ ?_
   ·rw [uc (by rw [hE]; decide)]
   rw [hE]
  have hs3 : (d8 p (decide (k = 1))).length ≤ 3 := by
   have := of_decide_eq_false hc
   omega
  refine ax ?_
  refine K14 _ ?_
  refine yS fun _ K17 => ?_
  refine yR ?_
  refine yF rfl rfl rfl rfl ?_
  refine yL rfl rfl rfl ?_
  refine yE rfl rfl rfl ?_
  try dsimp only [St.put]
  refine ae rfl (ay rfl rfl rfl (pn (decide (k = 1)) p) ?_)
  refine aa rfl (bp rfl rfl (List.length_map _)) ?_
  refine yM rfl rfl ?_
  refine yN ?_
  dsimp only [St.put]
  rw [show ir ((gx p k).map (·.id)) = ir ((gx p k ++ (d8 p (decide (k = 1))).take 0).map (·.id)) by simp]
  refine K17 _ ?_
  refine bk ?_
  refine cp 52 ?_
  refine zQ ?_
  refine dq ((ak G (nx) (iv Tryd.prog 3 (((gx p k).length)) (ir (((gx p k ++ (d8 p (decide (k = 1))).take 0)).map (·.id)))))) zX ?_
  dsimp only
  refine dp (X := Nat) (fun i => i ≤ (d8 p (decide (k = 1))).length ∧ okR (gx p k ++ (d8 p (decide (k = 1))).take i)) (fun i => (d8 p (decide (k = 1))).length - i) (fun i => [(11, .any), (51, .v (.int .i64 (i : Int)))]) (fun i G' => (ak G (nx) (iv Tryd.prog 3 (((gx p k ++ (d8 p (decide (k = 1))).take i).length)) (ir (((gx p k ++ (d8 p (decide (k = 1))).take i)).map (·.id)))))) 0 rfl ?_ ?_ ?_ ?_ ?_ ?_
  ·exact ⟨Nat.zero_le _, by simpa using hI.2.1⟩
  ·exact zF
  ·rw [show (gx p k ++ (d8 p (decide (k = 1))).take 0).length = (gx p k).length by simp]
   exact zX
  ·rintro i hI
   exact (by (try dsimp only); repeat' (first | exact trivial | refine ⟨?_, ?_⟩ | exact .v | exact .any | refine .elem ?_ | exact br _ _ | exact fq _ _ | exact ei _ _ | exact f4 _ (by (try dsimp only); omega) | exact .box (by (try dsimp only); omega) | exact fk | exact dh | exact iu (jy _ _) | refine f8 ?_ ?_ | exact .arr (by (try dsimp only); omega) | exact .own (by (try dsimp only); omega) | exact .map (by (try dsimp only); omega) | exact fa _ | refine ci ?_ ?_ | exact br _ _))
  ·rintro i hI
   exact (by (repeat' (refine l4 ?_ (by (try dsimp only); omega) ?_)); all_goals (first | exact l5 zS | (repeat' (first | exact trivial | refine ⟨?_, ?_⟩ | exact .v | exact .any | refine .elem ?_ | exact br _ _ | exact fq _ _ | exact ei _ _ | exact f4 _ (by (try dsimp only); omega) | exact .box (by (try dsimp only); omega) | exact fk | exact dh | exact iu (jy _ _) | refine f8 ?_ ?_ | exact .arr (by (try dsimp only); omega) | exact .own (by (try dsimp only); omega) | exact .map (by (try dsimp only); omega) | exact fa _ | refine ci ?_ ?_ | exact br _ _))))
  rintro i hJ
  dsimp only at hJ ⊢
  refine yS fun _ K18 => ?_
  refine yR ?_
  refine aa rfl (cv rfl rfl rfl) ?_
  refine yN ?_
  dsimp only [St.put]
  refine K18 _ ?_
  refine yS fun _ K19 => ?_
  refine ar rfl (fun hc => ?_) (fun hc => ?_)
  ·replace hc := of_decide_eq_true hc
   obtain ⟨r, hr⟩ : ∃ r, (d8 p (decide (k = 1)))[i]? = some r := dr (by omega)
   obtain ⟨L, hL⟩ : ∃ L, gx p k ++ (d8 p (decide (k = 1))).take i = L := ⟨_, rfl⟩
   refine ax ?_
   refine K19 _ ?_
   refine yS fun _ K20 => ?_
   refine bk ?_
   refine yS fun _ K21 => ?_
   refine yR ?_
   refine aa rfl (cb rfl rfl rfl rfl (ca (by assumption)) (Enc.len _)) ?_
   refine yE rfl rfl rfl ?_
   try dsimp only [St.put]
   refine ae rfl (dd rfl ?_)
   try dsimp only [St.put]
   refine ae rfl (cw rfl rfl rfl zG rfl rfl (by rfl) ?_)
   refine yN ?_
   dsimp only [St.put]
   refine K21 _ ?_
   refine fj (i := 11) rfl zG zC ?_
   dsimp only
   refine yS fun _ K22 => ?_
   refine cp 52 ?_
   refine zQ ?_
   refine kj (X := Bool) (fun d => d = !(gq r && !decide (r.id ∈ (gx p k ++ (d8 p (decide (k = 1))).take i).map (·.id)))) (fun d => [(72, .v (.bool d))]) (fun d G' => G') rfl ?_ (fun _ _ _ _ h => .inl h) ?_ ?_
   ·rintro d hI
    exact (by (try dsimp only); repeat' (first | exact trivial | refine ⟨?_, ?_⟩ | exact .v | exact .any | refine .elem ?_ | exact br _ _ | exact fq _ _ | exact ei _ _ | exact f4 _ (by (try dsimp only); omega) | exact .box (by (try dsimp only); omega) | exact fk | exact dh | exact iu (jy _ _) | refine f8 ?_ ?_ | exact .arr (by (try dsimp only); omega) | exact .own (by (try dsimp only); omega) | exact .map (by (try dsimp only); omega) | exact fa _ | refine ci ?_ ?_ | exact br _ _))
   ·refine yR ?_
    refine yF rfl rfl rfl rfl ?_
    refine yL rfl rfl rfl ?_
    try dsimp only [St.put]
    refine ae rfl (du rfl rfl rfl (by decide) (by decide) zR (by decide) ?_)
    try dsimp only [St.put]
    refine ae rfl (ay rfl rfl rfl (nw _ _ [_]) ?_)
    refine aa rfl (eb rfl rfl) ?_
    refine yM rfl rfl ?_
    refine eg (fun hs => ?_) (fun hs => ?_)
    ·have h5 : inB r.id 0 9999 = false := by rw [gj] at hs; simpa using hs
     refine yK rfl ?_
     refine yK rfl ?_
     refine yK rfl ?_
     refine yK rfl ?_
     refine aa rfl (bz rfl rfl (by constructor)) ?_
     refine yM rfl rfl ?_
     refine yK rfl ?_
     refine yK rfl ?_
     refine yK rfl ?_
     refine yK rfl ?_
     refine yK rfl ?_
     refine aa rfl (bz rfl rfl (by constructor)) ?_
     refine yN ?_
     dsimp only [St.put]
     refine ⟨_, ?_, ⟨⟨rfl, rfl⟩, zF, zB, zN, zX⟩⟩
     unfold gq
     first
     | (rw [h5]; simp; done)
     | (rw [decide_eq_true h11]; simp; done)
     | (rw [h5, decide_eq_false h11, gj]; simp)
    have h5 : inB r.id 0 9999 = true := by rw [gj] at hs; simpa using hs
    refine yM rfl rfl ?_
    refine yF rfl rfl rfl rfl ?_
    refine yL rfl rfl rfl ?_
    try dsimp only [St.put]
    refine bg rfl (wc r.id rfl rfl zG trivial rfl (ueg _ _)) ?_
    refine aa rfl (ck rfl rfl (by constructor)) ?_
    refine yM rfl rfl ?_
    refine eg (fun hs => ?_) (fun hs => ?_)
    ·have h11 := of_decide_eq_true hs
     refine yK rfl ?_
     refine yK rfl ?_
     refine yK rfl ?_
     refine yK rfl ?_
     refine yK rfl ?_
     refine aa rfl (bz rfl rfl (by constructor)) ?_
     refine yN ?_
     dsimp only [St.put]
     refine ⟨_, ?_, ⟨⟨rfl, rfl⟩, zF, zB, zN, zX⟩⟩
     unfold gq
     first
     | (rw [h5]; simp; done)
     | (rw [decide_eq_true h11]; simp; done)
     | (rw [h5, decide_eq_false h11, gj]; simp)
    have h11 := of_decide_eq_false hs
    refine yF rfl rfl rfl rfl ?_
    refine yL rfl rfl rfl ?_
    try dsimp only [St.put]
    refine ae rfl (du rfl rfl rfl (by decide) (by decide) zR (by decide) ?_)
    try dsimp only [St.put]
    refine ae rfl (ay rfl rfl rfl (nw _ _ [_]) ?_)
    refine aa rfl (eb rfl rfl) ?_
    refine aa rfl (ck rfl rfl (by constructor)) ?_
    refine yN ?_
    dsimp only [St.put]
    refine ⟨_, ?_, ⟨⟨rfl, rfl⟩, zF, zB, zN, zX⟩⟩
    unfold gq
    first
    | (rw [h5]; simp; done)
    | (rw [decide_eq_true h11]; simp; done)
    | (rw [h5, decide_eq_false h11, gj]; simp)
   rintro d hst
   dsimp only at hst ⊢
   refine ar rfl (fun hc => ?_) (fun hc => ?_)
   ·have hbad : gq r = false ∨ r.id ∈ (gx p k ++ (d8 p (decide (k = 1))).take i).map (·.id) := by
     rw [hc] at hst
     cases h1 : gq r
     ·exact .inl rfl
     rw [h1] at hst
     right
     exact Classical.byContradiction fun h2 => by rw [decide_eq_false h2] at hst; cases hst
    have hE : cm p = 90 := xz ht (ujn hk hr hbad)
    refine yS fun _ K24 => ?_
    refine yR ?_
    refine yA rfl rfl ?_
    refine yA rfl rfl ?_
    refine yN ?_
    dsimp only [St.put]
    refine K24 _ ?_
    refine aq ?_
    refine i6 rfl (by constructor) (by constructor) zN zS ?_ ?_
    ·rw [uc (by rw [hE]; decide)]
    rw [hE]
   have hgood : gq r = true ∧ r.id ∉ (gx p k ++ (d8 p (decide (k = 1))).take i).map (·.id) := by
    rw [hc] at hst
    cases h1 : gq r
    ·rw [h1] at hst; cases hst
    rw [h1] at hst
    exact ⟨rfl, fun h2 => by rw [decide_eq_true h2] at hst; cases hst⟩
   refine ax ?_
   refine K22 _ ?_
   refine yR ?_
   refine yM rfl rfl ?_
   refine yF rfl rfl rfl rfl ?_
   refine yL rfl rfl rfl ?_
   try dsimp only [St.put]
   refine ae rfl (u9 (r.id) rfl rfl rfl zG rfl ((show kd (ir ((gx p k ++ (d8 p (decide (k = 1))).take i).map (·.id))) r.id (.v (.bool true)) = ir ((gx p k ++ (d8 p (decide (k = 1))).take (i + 1)).map (·.id)) from by rw [ym hr, ← List.append_assoc]; exact umg r)) ?_)
   refine yN ?_
   dsimp only [St.put]
   refine K20 _ ?_
   refine yR ?_
   refine aa rfl (cg rfl rfl rfl (by omega)) ?_
   refine yM rfl rfl ?_
   refine yN ?_
   dsimp only [St.put]
   rw [show (gx p k ++ (d8 p (decide (k = 1))).take i).length + 1 = (gx p k ++ (d8 p (decide (k = 1))).take (i + 1)).length by rw [ym hr, ← List.append_assoc, List.length_append (bs := [r])]; rfl]
   exact ⟨i + 1, by omega, ⟨by omega, by rw [ym hr, ← List.append_assoc]; exact ukz hJ.2 hgood.1 hgood.2⟩, ⟨⟨rfl, rfl⟩, zF, zB, zN, zX⟩⟩
  replace hc := of_decide_eq_false hc
  refine dj ?_
  refine K12 _ ?_
  refine yR ?_
  refine aa rfl (cg rfl rfl rfl (by omega)) ?_
  refine yM rfl rfl ?_
  refine yN ?_
  dsimp only [St.put]
  rw [show gx p k ++ (d8 p (decide (k = 1))).take i = gx p (k + 1) by rw [uiz hk, gw (by omega)]] at hJ ⊢
  exact ⟨k + 1, by omega, ⟨by omega, hJ.2, by
   have h3 := hI.2.2
   by_cases e : k = 0
   ·subst e; exact ⟨fun _ => hs3, fun h => by omega⟩
   have e1 : k = 1 := by omega
   subst e1; exact ⟨fun _ => h3.1 (by omega), fun _ => hs3⟩⟩, ⟨⟨rfl, rfl⟩, zF, zB, zN, zX⟩⟩
 replace hc := of_decide_eq_false hc
 obtain rfl : k = 2 := by omega
 have hRB : jw p = true := by
  unfold jw
  have h2 := hI.2.1
  have h3 := hI.2.2
  rw [decide_eq_true (h3.1 (by omega)), decide_eq_true (h3.2 (by omega)), show (p.firsts ++ p.seconds).all gq = true from h2.1, decide_eq_true (show ((p.firsts ++ p.seconds).map (·.id)).Nodup from h2.2)]; rfl
 have hn1 : p.firsts.length ≤ 3 := hI.2.2.1 (by omega)
 have hn2 : p.seconds.length ≤ 3 := hI.2.2.2 (by omega)
 have hsl : ∀ b, (d8 p b).length ≤ 3 := fun b => by cases b; exact hn1; exact hn2
 refine dj ?_
 refine K8 _ ?_
 refine yS fun _ K25 => ?_
 refine yS fun _ K26 => ?_
 refine yR ?_
 refine yF rfl rfl rfl rfl ?_
 refine yL rfl rfl rfl ?_
 refine aa rfl (bp rfl rfl (List.length_map _)) ?_
 refine aa rfl (iq rfl rfl rfl) ?_
 refine yN ?_
 dsimp only [St.put]
 refine K26 _ ?_
 refine ar rfl (fun hc => ?_) (fun hc => ?_)
 ·have hnp : ¬ p.pages.length ≤ 8 := by
   have := of_decide_eq_true hc
   omega
  have hE : cm p = 90 := xz ht (uj1 hnp)
  refine yS fun _ K27 => ?_
  refine yR ?_
  refine yA rfl rfl ?_
  refine yA rfl rfl ?_
  refine yN ?_
  dsimp only [St.put]
  refine K27 _ ?_
  refine aq ?_
  refine i6 rfl (by constructor) (by constructor) zN zS ?_ ?_
  ·rw [uc (by rw [hE]; decide)]
  rw [hE]
 have hnp : p.pages.length ≤ 8 := by
  have := of_decide_eq_false hc
  omega
 refine ax ?_
 refine K25 _ ?_
 refine yS fun _ K28 => ?_
 refine yR ?_
 refine yE rfl rfl rfl ?_
 refine aa rfl (ie rfl rfl) ?_
 try dsimp only [St.put]
 refine ae rfl (uar rfl rfl ?_)
 refine yA rfl rfl ?_
 refine yN ?_
 dsimp only [St.put]
 refine K28 _ ?_
 refine oh (nx + 1) 4 _ _ 3 1 zG rfl (by decide) ?_
 refine oh (nx + 1) 5 _ _ 36 1 zG rfl (by decide) ?_
 refine oh (nx + 1) 6 _ _ 36 1 zG rfl (by decide) ?_
 dsimp only [List.set_cons_zero, List.set_cons_succ]
 refine yS fun _ K29 => ?_
 refine yR ?_
 refine yA rfl rfl ?_
 refine yN ?_
 dsimp only [St.put]
 refine K29 _ ?_
 refine yS fun _ K30 => ?_
 refine yR ?_
 refine yA rfl rfl ?_
 refine yN ?_
 dsimp only [St.put]
 refine K30 _ ?_
 refine yS fun _ K31 => ?_
 refine ugc ?_
 refine K31 _ ?_
 refine yS fun _ K32 => ?_
 refine yS fun _ K33 => ?_
 refine yR ?_
 refine yF rfl rfl rfl rfl ?_
 refine yL rfl rfl rfl ?_
 refine aa rfl (bp rfl rfl (List.length_map _)) ?_
 refine yM rfl rfl ?_
 refine yN ?_
 dsimp only [St.put]
 refine K33 _ ?_
 refine bk ?_
 refine cp 89 ?_
 refine zQ ?_
 refine dq ((ak (ak (ak (ak G (nx + 1) (.box (0 + 0 + 0) [lst p.text, lst p.firsts, lst p.seconds, lst p.pages, .list (((p.pages.take 0).map fun x => (fl p.text x : Int)).map cells) (.tip (nx + 1 + 1)), .list (((p.pages.take 0).map (ey p.text)).map cells) (.tip (nx + 1 + 1 + 1)), .list (((p.pages.take 0).map (d9 p.text)).map cells) (.tip (nx + 1 + 1 + 1 + 1))])) (nx + 1 + 1) (.tip ((p.pages.take 0).map fun x => (fl p.text x : Int)).length 3 1)) (nx + 1 + 1 + 1) (.tip ((p.pages.take 0).map (ey p.text)).length 36 1)) (nx + 1 + 1 + 1 + 1) (.tip ((p.pages.take 0).map (d9 p.text)).length 36 1))) zX ?_
 dsimp only
 refine dp (X := Nat) (fun j => j ≤ p.pages.length ∧ qr p j = true) (fun j => p.pages.length - j) (fun j => [(13, .v (.int .i64 (gt p.pages j))), (16, .any), (18, .any), (19, .any), (20, .any), (21, .any), (22, .any), (88, .v (.int .i64 (j : Int)))]) (fun j G' => (ak (ak (ak (ak G (nx + 1) (.box (j + j + j) [lst p.text, lst p.firsts, lst p.seconds, lst p.pages, .list (((p.pages.take j).map fun x => (fl p.text x : Int)).map cells) (.tip (nx + 1 + 1)), .list (((p.pages.take j).map (ey p.text)).map cells) (.tip (nx + 1 + 1 + 1)), .list (((p.pages.take j).map (d9 p.text)).map cells) (.tip (nx + 1 + 1 + 1 + 1))])) (nx + 1 + 1) (.tip ((p.pages.take j).map fun x => (fl p.text x : Int)).length 3 1)) (nx + 1 + 1 + 1) (.tip ((p.pages.take j).map (ey p.text)).length 36 1)) (nx + 1 + 1 + 1 + 1) (.tip ((p.pages.take j).map (d9 p.text)).length 36 1))) 0 rfl ?_ ?_ ?_ ?_ ?_ ?_
 ·exact ⟨Nat.zero_le _, rfl⟩
 ·exact zF
 ·exact zX
 ·rintro j hI
  exact (by (try dsimp only); repeat' (first | exact trivial | refine ⟨?_, ?_⟩ | exact .v | exact .any | refine .elem ?_ | exact br _ _ | exact fq _ _ | exact ei _ _ | exact f4 _ (by (try dsimp only); omega) | exact .box (by (try dsimp only); omega) | exact fk | exact dh | exact iu (jy _ _) | refine f8 ?_ ?_ | exact .arr (by (try dsimp only); omega) | exact .own (by (try dsimp only); omega) | exact .map (by (try dsimp only); omega) | exact fa _ | refine ci ?_ ?_ | exact br _ _))
 ·rintro j hI
  exact (by (repeat' (refine l4 ?_ (by (try dsimp only); omega) ?_)); all_goals (first | exact l5 zS | (repeat' (first | exact trivial | refine ⟨?_, ?_⟩ | exact .v | exact .any | refine .elem ?_ | exact br _ _ | exact fq _ _ | exact ei _ _ | exact f4 _ (by (try dsimp only); omega) | exact .box (by (try dsimp only); omega) | exact fk | exact dh | exact iu (jy _ _) | refine f8 ?_ ?_ | exact .arr (by (try dsimp only); omega) | exact .own (by (try dsimp only); omega) | exact .map (by (try dsimp only); omega) | exact fa _ | refine ci ?_ ?_ | exact br _ _))))
 rintro j hK
 dsimp only at hK ⊢
 refine yS fun _ K34 => ?_
 refine yR ?_
 refine aa rfl (cv rfl rfl rfl) ?_
 refine yN ?_
 dsimp only [St.put]
 refine K34 _ ?_
 refine yS fun _ K35 => ?_
 refine ar rfl (fun hc => ?_) (fun hc => ?_)
 ·replace hc := of_decide_eq_true hc
  obtain ⟨x, hx⟩ : ∃ x, p.pages[j]? = some x := dr (by omega)
  refine ax ?_
  refine K35 _ ?_
  refine yS fun _ K36 => ?_
  refine bk ?_
  refine yS fun _ K37 => ?_
  refine yR ?_
  refine aa rfl (cb rfl rfl rfl rfl (ca (by assumption)) (Enc.len _)) ?_
  refine yE rfl rfl rfl ?_
  try dsimp only [St.put]
  refine ae rfl (dd rfl ?_)
  try dsimp only [St.put]
  refine ae rfl (cw rfl rfl rfl zG rfl rfl (by rfl) ?_)
  refine yN ?_
  dsimp only [St.put]
  refine K37 _ ?_
  refine fj (i := 16) rfl zG zC ?_
  dsimp only
  refine cp 89 ?_
  refine zQ ?_
  refine kj (X := Bool) (fun d0 => d0 = qq p (gt p.pages j) x) (fun d0 => [(14, .v (.bool d0))]) (fun d0 G' => G') rfl ?_ (fun _ _ _ _ h => .inl h) ?_ ?_
  ·rintro d0 hI
   exact (by (try dsimp only); repeat' (first | exact trivial | refine ⟨?_, ?_⟩ | exact .v | exact .any | refine .elem ?_ | exact br _ _ | exact fq _ _ | exact ei _ _ | exact f4 _ (by (try dsimp only); omega) | exact .box (by (try dsimp only); omega) | exact fk | exact dh | exact iu (jy _ _) | refine f8 ?_ ?_ | exact .arr (by (try dsimp only); omega) | exact .own (by (try dsimp only); omega) | exact .map (by (try dsimp only); omega) | exact fa _ | refine ci ?_ ?_ | exact br _ _))
  ·refine yR ?_
   refine yF rfl rfl rfl rfl ?_
   refine yL rfl rfl rfl ?_
   refine yM rfl rfl ?_
   refine aa rfl (iq rfl rfl rfl) ?_
   refine yM rfl rfl ?_
   refine eg (fun hs => ?_) (fun hs => ?_)
   ·have z1 : gt p.pages j < x.fr := of_decide_eq_true hs
    refine yF rfl rfl rfl rfl ?_
    refine yL rfl rfl rfl ?_
    refine yF rfl rfl rfl rfl ?_
    refine yL rfl rfl rfl ?_
    refine aa rfl (uf rfl rfl rfl) ?_
    refine aa rfl (bz rfl rfl (by constructor)) ?_
    refine yM rfl rfl ?_
    refine eg (fun hs => ?_) (fun hs => ?_)
    ·have z2 : x.fr ≤ x.to := of_decide_eq_true hs
     refine yF rfl rfl rfl rfl ?_
     refine yL rfl rfl rfl ?_
     refine yM rfl rfl ?_
     refine aa rfl (cv rfl rfl rfl) ?_
     refine aa rfl (bz rfl rfl (by constructor)) ?_
     refine yA rfl rfl ?_
     refine yN ?_
     dsimp only [St.put]
     refine ⟨_, ?_, ⟨⟨rfl, rfl⟩, zF, zB, zN, zX⟩⟩
     unfold qq
     first
     | (simp [z1]; done)
     | (simp [z1, z2]; done)
     | (simp [z1]; omega)
    have z2 : ¬ x.fr ≤ x.to := of_decide_eq_false hs
    refine yK rfl ?_
    refine yK rfl ?_
    refine yK rfl ?_
    refine yK rfl ?_
    refine aa rfl (ck rfl rfl (by constructor)) ?_
    refine yA rfl rfl ?_
    refine yN ?_
    dsimp only [St.put]
    refine ⟨_, ?_, ⟨⟨rfl, rfl⟩, zF, zB, zN, zX⟩⟩
    unfold qq
    first
    | (simp [z1]; done)
    | (simp [z1, z2]; done)
    | (simp [z1]; omega)
   have z1 : ¬ gt p.pages j < x.fr := of_decide_eq_false hs
   refine yK rfl ?_
   refine yK rfl ?_
   refine yK rfl ?_
   refine yK rfl ?_
   refine yK rfl ?_
   refine aa rfl (ck rfl rfl (by constructor)) ?_
   refine yM rfl rfl ?_
   refine yK rfl ?_
   refine yK rfl ?_
   refine yK rfl ?_
   refine yK rfl ?_
   refine aa rfl (ck rfl rfl (by constructor)) ?_
   refine yA rfl rfl ?_
   refine yN ?_
   dsimp only [St.put]
   refine ⟨_, ?_, ⟨⟨rfl, rfl⟩, zF, zB, zN, zX⟩⟩
   unfold qq
   first
   | (simp [z1]; done)
   | (simp [z1, z2]; done)
   | (simp [z1]; omega)
  rintro d0 hst0
  dsimp only at hst0 ⊢
  subst hst0
  refine yS fun _ K39 => ?_
  refine yS fun _ K40 => ?_
  refine yR ?_
  try dsimp only [St.put]
  refine bg rfl (nm (n := 6) (m := n) rfl rfl zG rfl) ?_
  refine yM rfl rfl ?_
  refine yN ?_
  dsimp only [St.put]
  refine K40 _ ?_
  refine bk ?_
  refine cp 111 ?_
  refine zQ ?_
  refine dq ((ak (ak (ak (ak G (nx + 1) (.box (j + j + j) [lst p.text, lst p.firsts, lst p.seconds, lst p.pages, .list (((p.pages.take j).map fun x => (fl p.text x : Int)).map cells) (.tip (nx + 1 + 1)), .list (((p.pages.take j).map (ey p.text)).map cells) (.tip (nx + 1 + 1 + 1)), .list (((p.pages.take j).map (d9 p.text)).map cells) (.tip (nx + 1 + 1 + 1 + 1))])) (nx + 1 + 1) (.tip ((p.pages.take j).map fun x => (fl p.text x : Int)).length 3 1)) (nx + 1 + 1 + 1) (.tip ((p.pages.take j).map (ey p.text)).length 36 1)) (nx + 1 + 1 + 1 + 1) (.tip ((p.pages.take j).map (d9 p.text)).length 36 1))) zX ?_
  dsimp only
  refine dp (X := Nat) (fun k => k ≤ 2) (fun k => 2 - k) (fun k => [(14, .v (.bool (pk p (gt p.pages j) x k))), (18, .any), (19, .any), (20, .any), (21, .any), (22, .any), (110, .v (.int .i64 (k : Int)))]) (fun k G' => G') 0 rfl ?_ ?_ (fun _ _ h => h) ?_ ?_ ?_
  ·exact Nat.zero_le _
  ·exact zF
  ·rintro k hI
   exact (by (try dsimp only); repeat' (first | exact trivial | refine ⟨?_, ?_⟩ | exact .v | exact .any | refine .elem ?_ | exact br _ _ | exact fq _ _ | exact ei _ _ | exact f4 _ (by (try dsimp only); omega) | exact .box (by (try dsimp only); omega) | exact fk | exact dh | exact iu (jy _ _) | refine f8 ?_ ?_ | exact .arr (by (try dsimp only); omega) | exact .own (by (try dsimp only); omega) | exact .map (by (try dsimp only); omega) | exact fa _ | refine ci ?_ ?_ | exact br _ _))
  ·exact fun _ _ _ _ h => .inl h
  rintro k hS
  dsimp only at hS ⊢
  refine yS fun _ K41 => ?_
  refine yR ?_
  refine aa rfl (cv rfl rfl rfl) ?_
  refine yN ?_
  dsimp only [St.put]
  refine K41 _ ?_
  refine yS fun _ K42 => ?_
  refine ar rfl (fun hc => ?_) (fun hc => ?_)
  ·replace hc := of_decide_eq_true hc
   have hk2 : k < 2 := by omega
   have hslk := hsl (decide (k = 1))
   refine ax ?_
   refine K42 _ ?_
   refine yS fun _ K43 => ?_
   refine bk ?_
   refine yS fun _ K44 => ?_
   refine yR ?_
   refine aa rfl (w9 (k := k) (m := 2) (sz := 3) rfl rfl rfl rfl hk2 (v8 hk2)) ?_
   try dsimp only [St.put]
   refine ae rfl (dd rfl ?_)
   try dsimp only [St.put]
   refine ae rfl (cw rfl rfl rfl zG rfl rfl (by rfl) ?_)
   refine yN ?_
   dsimp only [St.put]
   refine K44 _ ?_
   refine fj (i := 18) rfl zG zC ?_
   dsimp only
   refine cp 111 ?_
   refine zQ ?_
   refine kj (X := Unit) (fun _ => True) (fun _ => [(19, .v (.int .i64 (el (decide (k = 1)) x))), (20, lst (di (decide (k = 1)) x))]) (fun _ G' => G') rfl ?_ (fun _ _ _ _ h => .inl h) ?_ ?_
   ·rintro _ hI
    exact (by (try dsimp only); repeat' (first | exact trivial | refine ⟨?_, ?_⟩ | exact .v | exact .any | refine .elem ?_ | exact br _ _ | exact fq _ _ | exact ei _ _ | exact f4 _ (by (try dsimp only); omega) | exact .box (by (try dsimp only); omega) | exact fk | exact dh | exact iu (jy _ _) | refine f8 ?_ ?_ | exact .arr (by (try dsimp only); omega) | exact .own (by (try dsimp only); omega) | exact .map (by (try dsimp only); omega) | exact fa _ | refine ci ?_ ?_ | exact br _ _))
   ·refine g8 [(0, none), (1, none), (2, none), (4, none), (5, none), (6, none), (3, none), (7, none), (8, none), (9, none)] (fun i => [7].contains i) (fun i => [3, 7].contains i) (fun i => [0, 4, 8, 9].contains i) [] (by kernel_rfl) (by kernel_rfl) ?_
    refine ah rfl rfl rfl rfl (ce rfl rfl rfl) ?_
    try dsimp only [St.put]
    refine aw rfl rfl rfl rfl (bq rfl rfl) ?_
    try dsimp only [St.put]
    refine aw rfl rfl rfl rfl (dl rfl rfl (Enc.len _)) ?_
    refine ah rfl rfl rfl rfl (ce rfl rfl rfl) ?_
    try dsimp only [St.put]
    refine aw rfl rfl rfl rfl (bq rfl rfl) ?_
    try dsimp only [St.put]
    refine aw rfl rfl rfl rfl (dl rfl rfl (Enc.len _)) ?_
    refine jf ?_
    try dsimp only [St.put]
    refine i9 rfl rfl rfl (ay rfl rfl rfl (yy (decide (k = 1)) x) ⟨zD, ?_⟩)
    try dsimp only [St.put]
    refine g9 rfl rfl rfl rfl (ay rfl rfl rfl (ub4 (decide (k = 1)) x) ?_)
    refine ed rfl rfl rfl rfl (cz rfl (by constructor)) ?_
    refine ed rfl rfl rfl rfl (cz rfl (by constructor)) ?_
    refine je ?_
    dsimp only [St.put]
    exact ⟨(), trivial, ⟨⟨rfl, rfl⟩, zF, zB, zN, zX⟩⟩
   rintro _ h31
   dsimp only at h31 ⊢
   refine cp 111 ?_
   refine zQ ?_
   refine kj (X := Bool) (fun d => d = (pk p (gt p.pages j) x k && (inB (el (decide (k = 1)) x) (-1) (((d8 p (decide (k = 1))).length : Int) - 1) && (decide (0 ≤ el (decide (k = 1)) x) || decide (di (decide (k = 1)) x = []))))) (fun d => [(14, .v (.bool d))]) (fun d G' => G') rfl ?_ (fun _ _ _ _ h => .inl h) ?_ ?_
   ·rintro d hI
    exact (by (try dsimp only); repeat' (first | exact trivial | refine ⟨?_, ?_⟩ | exact .v | exact .any | refine .elem ?_ | exact br _ _ | exact fq _ _ | exact ei _ _ | exact f4 _ (by (try dsimp only); omega) | exact .box (by (try dsimp only); omega) | exact fk | exact dh | exact iu (jy _ _) | refine f8 ?_ ?_ | exact .arr (by (try dsimp only); omega) | exact .own (by (try dsimp only); omega) | exact .map (by (try dsimp only); omega) | exact fa _ | refine ci ?_ ?_ | exact br _ _))
   ·refine yR ?_
    refine yM rfl rfl ?_
    refine yM rfl rfl ?_
    refine eg (fun hs => ?_) (fun hs => ?_)
    ·have s0 : pk p (gt p.pages j) x k = true := hs
     refine yF rfl rfl rfl rfl ?_
     refine yL rfl rfl rfl ?_
     refine yE rfl rfl rfl ?_
     try dsimp only [St.put]
     refine ae rfl (ay rfl rfl rfl (pn (decide (k = 1)) p) ?_)
     refine aa rfl (bp rfl rfl (List.length_map _)) ?_
     refine aa rfl (i0 rfl rfl rfl (by omega)) ?_
     refine yM rfl rfl ?_
     try dsimp only [St.put]
     refine ae rfl (du rfl rfl rfl (by decide) (by decide) zR (by decide) ?_)
     try dsimp only [St.put]
     refine ae rfl (ay rfl rfl rfl (nw _ _ [_]) ?_)
     refine aa rfl (bz rfl rfl (by constructor)) ?_
     refine yM rfl rfl ?_
     refine eg (fun hs => ?_) (fun hs => ?_)
     ·have s1 : inB (el (decide (k = 1)) x) (-1) (((d8 p (decide (k = 1))).length : Int) - 1) = true := by rw [gj] at hs; exact hs
      refine yM rfl rfl ?_
      refine aa rfl (kb rfl rfl rfl) ?_
      refine yM rfl rfl ?_
      refine eg (fun hs => ?_) (fun hs => ?_)
      ·have s2 : 0 ≤ el (decide (k = 1)) x := of_decide_eq_true hs
       refine yK rfl ?_
       refine yK rfl ?_
       refine yK rfl ?_
       refine aa rfl (bz rfl rfl (by constructor)) ?_
       refine aa rfl (bz rfl rfl (by constructor)) ?_
       refine yA rfl rfl ?_
       refine yN ?_
       dsimp only [St.put]
       refine ⟨_, ?_, ⟨⟨rfl, rfl⟩, zF, zB, zN, zX⟩⟩
       first
       | (rw [s0]; simp; done)
       | (rw [s0, s1]; simp; done)
       | (rw [s0, s1, decide_eq_true s2]; simp; done)
       | (rw [s0, s1, decide_eq_false s2, Bool.true_and, Bool.true_and, Bool.false_or, decide_eq_decide]; exact nil_len.symm)
      have s2 : ¬ 0 ≤ el (decide (k = 1)) x := of_decide_eq_false hs
      refine yM rfl rfl ?_
      refine aa rfl (bp rfl rfl (List.length_map _)) ?_
      refine aa rfl (fp rfl rfl rfl) ?_
      refine aa rfl (ck rfl rfl (by constructor)) ?_
      refine aa rfl (bz rfl rfl (by constructor)) ?_
      refine yA rfl rfl ?_
      refine yN ?_
      dsimp only [St.put]
      refine ⟨_, ?_, ⟨⟨rfl, rfl⟩, zF, zB, zN, zX⟩⟩
      first
      | (rw [s0]; simp; done)
      | (rw [s0, s1]; simp; done)
      | (rw [s0, s1, decide_eq_true s2]; simp; done)
      | (rw [s0, s1, decide_eq_false s2, Bool.true_and, Bool.true_and, Bool.false_or, decide_eq_decide]; exact nil_len.symm)
     have s1 : inB (el (decide (k = 1)) x) (-1) (((d8 p (decide (k = 1))).length : Int) - 1) = false := by rw [gj] at hs; exact hs
     refine yK rfl ?_
     refine yK rfl ?_
     refine yK rfl ?_
     refine yK rfl ?_
     refine yK rfl ?_
     refine yK rfl ?_
     refine yK rfl ?_
     refine aa rfl (ck rfl rfl (by constructor)) ?_
     refine yA rfl rfl ?_
     refine yN ?_
     dsimp only [St.put]
     refine ⟨_, ?_, ⟨⟨rfl, rfl⟩, zF, zB, zN, zX⟩⟩
     first
     | (rw [s0]; simp; done)
     | (rw [s0, s1]; simp; done)
     | (rw [s0, s1, decide_eq_true s2]; simp; done)
     | (rw [s0, s1, decide_eq_false s2, Bool.true_and, Bool.true_and, Bool.false_or, decide_eq_decide]; exact nil_len.symm)
    have s0 : pk p (gt p.pages j) x k = false := hs
    refine yK rfl ?_
    refine yK rfl ?_
    refine yK rfl ?_
    refine yK rfl ?_
    refine yK rfl ?_
    refine yK rfl ?_
    refine yK rfl ?_
    refine yK rfl ?_
    refine yK rfl ?_
    refine aa rfl (ck rfl rfl (by constructor)) ?_
    refine yM rfl rfl ?_
    refine yK rfl ?_
    refine yK rfl ?_
    refine yK rfl ?_
    refine yK rfl ?_
    refine yK rfl ?_
    refine yK rfl ?_
    refine yK rfl ?_
    refine aa rfl (ck rfl rfl (by constructor)) ?_
    refine yA rfl rfl ?_
    refine yN ?_
    dsimp only [St.put]
    refine ⟨_, ?_, ⟨⟨rfl, rfl⟩, zF, zB, zN, zX⟩⟩
    first
    | (rw [s0]; simp; done)
    | (rw [s0, s1]; simp; done)
    | (rw [s0, s1, decide_eq_true s2]; simp; done)
    | (rw [s0, s1, decide_eq_false s2, Bool.true_and, Bool.true_and, Bool.false_or, decide_eq_decide]; exact nil_len.symm)
   rintro d hd
   dsimp only at hd ⊢
   refine yS fun _ K47 => ?_
   refine lh 20 (fun hfit => ?_)
   have hfll := (fit_lst.1 hfit).1
   rw [show (C.v (.bool d)) = .v (.bool (d && dt p.text x (di (decide (k = 1)) x) 0)) by simp [dt]]
   refine yR ?_
   refine yM rfl rfl ?_
   refine aa rfl (bp rfl rfl (List.length_map _)) ?_
   refine yM rfl rfl ?_
   refine yN ?_
   dsimp only [St.put]
   refine K47 _ ?_
   refine bk ?_
   refine cp 145 ?_
   refine zQ ?_
   refine dq ((ak (ak (ak (ak G (nx + 1) (.box (j + j + j) [lst p.text, lst p.firsts, lst p.seconds, lst p.pages, .list (((p.pages.take j).map fun x => (fl p.text x : Int)).map cells) (.tip (nx + 1 + 1)), .list (((p.pages.take j).map (ey p.text)).map cells) (.tip (nx + 1 + 1 + 1)), .list (((p.pages.take j).map (d9 p.text)).map cells) (.tip (nx + 1 + 1 + 1 + 1))])) (nx + 1 + 1) (.tip ((p.pages.take j).map fun x => (fl p.text x : Int)).length 3 1)) (nx + 1 + 1 + 1) (.tip ((p.pages.take j).map (ey p.text)).length 36 1)) (nx + 1 + 1 + 1 + 1) (.tip ((p.pages.take j).map (d9 p.text)).length 36 1))) zX ?_
   dsimp only
   refine dp (X := Nat) (fun i => i ≤ (di (decide (k = 1)) x).length) (fun i => (di (decide (k = 1)) x).length - i) (fun i => [(14, .v (.bool (d && dt p.text x (di (decide (k = 1)) x) i))), (21, .any), (22, .any), (144, .v (.int .i64 (i : Int)))]) (fun i G' => G') 0 rfl ?_ ?_ (fun _ _ h => h) ?_ ?_ ?_
   ·exact Nat.zero_le _
   ·exact zF
   ·rintro i hI
    exact (by (try dsimp only); repeat' (first | exact trivial | refine ⟨?_, ?_⟩ | exact .v | exact .any | refine .elem ?_ | exact br _ _ | exact fq _ _ | exact ei _ _ | exact f4 _ (by (try dsimp only); omega) | exact .box (by (try dsimp only); omega) | exact fk | exact dh | exact iu (jy _ _) | refine f8 ?_ ?_ | exact .arr (by (try dsimp only); omega) | exact .own (by (try dsimp only); omega) | exact .map (by (try dsimp only); omega) | exact fa _ | refine ci ?_ ?_ | exact br _ _))
   ·exact fun _ _ _ _ h => .inl h
   rintro i hT
   dsimp only at hT ⊢
   refine yS fun _ K48 => ?_
   refine yR ?_
   refine aa rfl (cv rfl rfl rfl) ?_
   refine yN ?_
   dsimp only [St.put]
   refine K48 _ ?_
   refine yS fun _ K49 => ?_
   refine ar rfl (fun hc => ?_) (fun hc => ?_)
   ·replace hc := of_decide_eq_true hc
    obtain ⟨q, hq⟩ : ∃ q, (di (decide (k = 1)) x)[i]? = some q := dr (by omega)
    refine ax ?_
    refine K49 _ ?_
    refine yS fun _ K50 => ?_
    refine bk ?_
    refine yS fun _ K51 => ?_
    refine yR ?_
    refine yM rfl rfl ?_
    refine aa rfl (cb rfl rfl rfl rfl (ca (by assumption)) (Enc.len _)) ?_
    refine yE rfl rfl rfl ?_
    try dsimp only [St.put]
    refine ae rfl (dd rfl ?_)
    refine yA rfl rfl ?_
    try dsimp only [St.put]
    refine ae rfl (cw rfl rfl rfl zG rfl rfl (by rfl) ?_)
    refine yN ?_
    dsimp only [St.put]
    refine K51 _ ?_
    refine fj (i := 22) rfl zG zC ?_
    dsimp only
    refine qi [(0, none), (1, none), (2, none), (3, none), (4, none)] (fun _ => false) (fun i => [0, 1, 2].contains i) 33 (rl [5, 33]) (by kernel_rfl) (by kernel_rfl) ?_
    refine xM rfl rfl rfl rfl rfl ?_
    refine xM rfl rfl rfl rfl rfl ?_
    refine j6 (fun hs => ?_) (fun hs => ?_)
    ·have w0 : (d && dt p.text x (di (decide (k = 1)) x) i) = true := hs
     refine ah rfl rfl rfl rfl (ce rfl rfl rfl) ?_
     try dsimp only [St.put]
     refine aw rfl rfl rfl rfl (c := gu p.text) (ju (cs := cells p) rfl rfl (show 1 ≤ 4 by decide)) ?_
     try dsimp only [St.put]
     refine aw rfl rfl rfl rfl (dl rfl rfl (Enc.len _)) ?_
     refine cn ?_
     refine c7 [5] (by kernel_rfl) (by simp) ?_
     refine dz ?_ ?_
     ·try dsimp only [St.put]
      refine gk rfl rfl rfl (ay rfl rfl rfl (uka p.text q ht) ?_)
      refine ep [(6, none), (7, none), (8, none), (9, none), (10, none), (11, none), (12, none), (13, none), (14, none), (15, none), (16, none), (17, none), (18, none), (19, none)] (fun i => [6, 7, 8, 10, 12, 13, 15, 17, 19].contains i) 18 (rl [20, 18]) (by kernel_rfl) ?_
      refine ah rfl rfl rfl rfl (bz rfl rfl (by constructor)) ?_
      refine xM rfl rfl rfl rfl rfl ?_
      refine j6 (fun hs => ?_) (fun hs => ?_)
      ·have w1 : fy p.text q = true := hs
       obtain ⟨kq, nq, wq, cq, lq, hqe, hq1, hq2, hq3⟩ := ucp w1
       have hkl := (List.getElem?_eq_some_iff.1 hq1).1
       have hnl := (List.getElem?_eq_some_iff.1 hq2).1
       have hcl := (hl3 cq (gd hq1)).2.1
       have hst := ubr (t := p.text) (k := p.text.length) (i := kq) hkl
       have hsb := vy ht kq (by omega)
       have hqc : q.ch = (kq : Int) := by rw [hqe]
       have hql : q.ln = (nq : Int) := by rw [hqe]
       refine ah rfl rfl rfl rfl (ce rfl rfl rfl) ?_
       try dsimp only [St.put]
       refine aw rfl rfl rfl rfl (bq rfl rfl) ?_
       refine ah rfl rfl rfl rfl (ce rfl rfl rfl) ?_
       try dsimp only [St.put]
       refine aw rfl rfl rfl rfl (bq rfl rfl) ?_
       refine xM rfl rfl rfl rfl rfl ?_
       refine ah rfl rfl rfl rfl (ce rfl rfl rfl) ?_
       try dsimp only [St.put]
       refine aw rfl rfl rfl rfl (bq rfl rfl) ?_
       try dsimp only [St.put]
       refine ah rfl rfl rfl rfl (cb rfl rfl rfl (by omega) (ca (by assumption)) (Enc.len _)) ?_
       try dsimp only [St.put]
       refine aw rfl rfl rfl rfl (bq rfl rfl) ?_
       refine ah rfl rfl rfl rfl (ce rfl rfl rfl) ?_
       try dsimp only [St.put]
       refine aw rfl rfl rfl rfl (bq rfl rfl) ?_
       refine ah rfl rfl rfl rfl (cg rfl rfl rfl (by omega)) ?_
       refine cn ?_
       refine c7 [20] (by kernel_rfl) (by simp) ?_
       refine dz ?_ ?_
       ·try dsimp only [St.put]
        refine gk rfl rfl rfl (du rfl rfl rfl (by decide) (by decide) zR (by decide) ?_)
        refine c7 [21] (by kernel_rfl) (by simp) ?_
        refine dz ?_ ?_
        ·try dsimp only [St.put]
         refine gk rfl rfl rfl (ay rfl rfl rfl (nw _ _ [_]) ?_)
         refine ep [(22, none), (23, none), (24, none), (25, none), (26, none), (27, none), (28, none), (29, none), (30, none), (31, none), (32, none)] (fun i => [22, 23, 24, 25, 26, 27, 28, 29, 30].contains i) 5 (rl [33, 5]) (by kernel_rfl) ?_
         refine ah rfl rfl rfl rfl (bz rfl rfl (by constructor)) ?_
         refine xM rfl rfl rfl rfl rfl ?_
         refine j6 (fun hs => ?_) (fun hs => ?_)
         ·have w2 : ib p.text x q = true := by
           rw [gj] at hs
           unfold ib qw
           rw [hqc, Int.toNat_natCast, Int.add_comm]; exact hs
          refine xM rfl rfl rfl rfl rfl ?_
          refine ah rfl rfl rfl rfl (fp rfl rfl rfl) ?_
          refine xM rfl rfl rfl rfl rfl ?_
          refine j6 (fun hs => ?_) (fun hs => ?_)
          ·have w3 : i = 0 := by have := of_decide_eq_true hs; omega
           refine aj rfl rfl rfl ?_
           refine aj rfl rfl rfl ?_
           refine aj rfl rfl rfl ?_
           refine aj rfl rfl rfl ?_
           refine aj rfl rfl rfl ?_
           refine aj rfl rfl rfl ?_
           refine cn ?_
           refine c7 [33] (by kernel_rfl) (by simp) ?_
           refine dz ?_ ?_
           ·refine ge rfl rfl rfl ?_
            refine ep [(34, none), (35, none), (36, none), (37, none)] (fun i => [34, 35, 36, 37].contains i) 0 (rl [38]) (by kernel_rfl) ?_
            refine aj rfl rfl rfl ?_
            refine ah rfl rfl rfl rfl (bz rfl rfl (by constructor)) ?_
            refine ah rfl rfl rfl rfl (bz rfl rfl (by constructor)) ?_
            refine ah rfl rfl rfl rfl (cz rfl (by constructor)) ?_
            refine cn ?_
            dsimp only [St.put]
            refine ia (by kernel_rfl) ?_
            refine K50 _ ?_
            refine yR ?_
            refine aa rfl (cg rfl rfl rfl (by omega)) ?_
            refine yM rfl rfl ?_
            refine yN ?_
            dsimp only [St.put]
            refine ⟨i + 1, by omega, by omega, ?_⟩
            try dsimp only
            first
            | (rw [show (d && dt p.text x (di (decide (k = 1)) x) (i + 1)) = false by rw [gy, ← Bool.and_assoc, show (d && dt p.text x (di (decide (k = 1)) x) i) = false from w0, Bool.false_and]]
               exact ⟨⟨rfl, rfl⟩, zF, zB, zN, zX⟩)
            | (rw [show (d && dt p.text x (di (decide (k = 1)) x) (i + 1)) = false by rw [gy, jc hq, show fy p.text q = false from w1]; simp]
               exact ⟨⟨rfl, rfl⟩, zF, zB, zN, zX⟩)
            | (rw [show (d && dt p.text x (di (decide (k = 1)) x) (i + 1)) = false by rw [gy, jc hq, show ib p.text x q = false from w2]; simp]
               exact ⟨⟨rfl, rfl⟩, zF, zB, zN, zX⟩)
            | (rw [show (d && dt p.text x (di (decide (k = 1)) x) (i + 1)) = true by rw [gy, ← Bool.and_assoc, show (d && dt p.text x (di (decide (k = 1)) x) i) = true from w0, jc hq, w1, w2, decide_eq_true (show i = 0 from w3)]; rfl]
               exact ⟨⟨rfl, rfl⟩, zF, zB, zN, zX⟩)
            | (rw [show (d && dt p.text x (di (decide (k = 1)) x) (i + 1)) = decide (mi a q < 0) by rw [gy, ← Bool.and_assoc, show (d && dt p.text x (di (decide (k = 1)) x) i) = true from w0, jc hq, w1, w2, decide_eq_false (show ¬ i = 0 from w3), ha]; rfl]
               exact ⟨⟨rfl, rfl⟩, zF, zB, zN, zX⟩)
           exact dx
          have w3 : ¬ i = 0 := by have := of_decide_eq_false hs; omega
          obtain ⟨a, ha⟩ : ∃ a, (di (decide (k = 1)) x)[i - 1]? = some a := dr (by omega)
          refine xM rfl rfl rfl rfl rfl ?_
          refine xM rfl rfl rfl rfl rfl ?_
          refine ah rfl rfl rfl rfl (i0 rfl rfl rfl (by omega)) ?_
          try dsimp only [St.put]
          refine ah rfl rfl rfl rfl (cb (k := i - 1) rfl rfl rfl (by omega) (ca ha) (Enc.len _)) ?_
          try dsimp only [St.put]
          refine aw rfl rfl rfl rfl (dl rfl rfl (Enc.len _)) ?_
          try dsimp only [St.put]
          refine aw rfl rfl rfl rfl (dl rfl rfl (Enc.len _)) ?_
          refine cn ?_
          refine c7 [33] (by kernel_rfl) (by simp) ?_
          refine dz ?_ ?_
          ·try dsimp only [St.put]
           refine gk rfl rfl rfl (ay rfl rfl rfl (zf a q) ?_)
           refine ep [(34, none), (35, none), (36, none), (37, none)] (fun i => [34, 35, 36, 37].contains i) 0 (rl [38]) (by kernel_rfl) ?_
           refine ah rfl rfl rfl rfl (cv rfl rfl rfl) ?_
           refine ah rfl rfl rfl rfl (ck rfl rfl (by constructor)) ?_
           refine ah rfl rfl rfl rfl (bz rfl rfl (by constructor)) ?_
           refine ah rfl rfl rfl rfl (cz rfl (by constructor)) ?_
           refine cn ?_
           dsimp only [St.put]
           refine ia (by kernel_rfl) ?_
           refine K50 _ ?_
           refine yR ?_
           refine aa rfl (cg rfl rfl rfl (by omega)) ?_
           refine yM rfl rfl ?_
           refine yN ?_
           dsimp only [St.put]
           refine ⟨i + 1, by omega, by omega, ?_⟩
           try dsimp only
           first
           | (rw [show (d && dt p.text x (di (decide (k = 1)) x) (i + 1)) = false by rw [gy, ← Bool.and_assoc, show (d && dt p.text x (di (decide (k = 1)) x) i) = false from w0, Bool.false_and]]
              exact ⟨⟨rfl, rfl⟩, zF, zB, zN, zX⟩)
           | (rw [show (d && dt p.text x (di (decide (k = 1)) x) (i + 1)) = false by rw [gy, jc hq, show fy p.text q = false from w1]; simp]
              exact ⟨⟨rfl, rfl⟩, zF, zB, zN, zX⟩)
           | (rw [show (d && dt p.text x (di (decide (k = 1)) x) (i + 1)) = false by rw [gy, jc hq, show ib p.text x q = false from w2]; simp]
              exact ⟨⟨rfl, rfl⟩, zF, zB, zN, zX⟩)
           | (rw [show (d && dt p.text x (di (decide (k = 1)) x) (i + 1)) = true by rw [gy, ← Bool.and_assoc, show (d && dt p.text x (di (decide (k = 1)) x) i) = true from w0, jc hq, w1, w2, decide_eq_true (show i = 0 from w3)]; rfl]
              exact ⟨⟨rfl, rfl⟩, zF, zB, zN, zX⟩)
           | (rw [show (d && dt p.text x (di (decide (k = 1)) x) (i + 1)) = decide (mi a q < 0) by rw [gy, ← Bool.and_assoc, show (d && dt p.text x (di (decide (k = 1)) x) i) = true from w0, jc hq, w1, w2, decide_eq_false (show ¬ i = 0 from w3), ha]; rfl]
              exact ⟨⟨rfl, rfl⟩, zF, zB, zN, zX⟩)
          exact dx
         have w2 : ib p.text x q = false := by
          rw [gj] at hs
          unfold ib qw
          rw [hqc, Int.toNat_natCast, Int.add_comm]; exact hs
         refine aj rfl rfl rfl ?_
         refine aj rfl rfl rfl ?_
         refine aj rfl rfl rfl ?_
         refine aj rfl rfl rfl ?_
         refine aj rfl rfl rfl ?_
         refine aj rfl rfl rfl ?_
         refine aj rfl rfl rfl ?_
         refine aj rfl rfl rfl ?_
         refine aj rfl rfl rfl ?_
         refine cn ?_
         refine c7 [33] (by kernel_rfl) (by simp) ?_
         refine dz ?_ ?_
         ·refine ge rfl rfl rfl ?_
          refine ep [(34, none), (35, none), (36, none), (37, none)] (fun i => [34, 35, 36, 37].contains i) 0 (rl [38]) (by kernel_rfl) ?_
          refine aj rfl rfl rfl ?_
          refine aj rfl rfl rfl ?_
          refine ah rfl rfl rfl rfl (ck rfl rfl (by constructor)) ?_
          refine ah rfl rfl rfl rfl (cz rfl (by constructor)) ?_
          refine cn ?_
          dsimp only [St.put]
          refine ia (by kernel_rfl) ?_
          refine K50 _ ?_
          refine yR ?_
          refine aa rfl (cg rfl rfl rfl (by omega)) ?_
          refine yM rfl rfl ?_
          refine yN ?_
          dsimp only [St.put]
          refine ⟨i + 1, by omega, by omega, ?_⟩
          try dsimp only
          first
          | (rw [show (d && dt p.text x (di (decide (k = 1)) x) (i + 1)) = false by rw [gy, ← Bool.and_assoc, show (d && dt p.text x (di (decide (k = 1)) x) i) = false from w0, Bool.false_and]]
             exact ⟨⟨rfl, rfl⟩, zF, zB, zN, zX⟩)
          | (rw [show (d && dt p.text x (di (decide (k = 1)) x) (i + 1)) = false by rw [gy, jc hq, show fy p.text q = false from w1]; simp]
             exact ⟨⟨rfl, rfl⟩, zF, zB, zN, zX⟩)
          | (rw [show (d && dt p.text x (di (decide (k = 1)) x) (i + 1)) = false by rw [gy, jc hq, show ib p.text x q = false from w2]; simp]
             exact ⟨⟨rfl, rfl⟩, zF, zB, zN, zX⟩)
          | (rw [show (d && dt p.text x (di (decide (k = 1)) x) (i + 1)) = true by rw [gy, ← Bool.and_assoc, show (d && dt p.text x (di (decide (k = 1)) x) i) = true from w0, jc hq, w1, w2, decide_eq_true (show i = 0 from w3)]; rfl]
             exact ⟨⟨rfl, rfl⟩, zF, zB, zN, zX⟩)
          | (rw [show (d && dt p.text x (di (decide (k = 1)) x) (i + 1)) = decide (mi a q < 0) by rw [gy, ← Bool.and_assoc, show (d && dt p.text x (di (decide (k = 1)) x) i) = true from w0, jc hq, w1, w2, decide_eq_false (show ¬ i = 0 from w3), ha]; rfl]
             exact ⟨⟨rfl, rfl⟩, zF, zB, zN, zX⟩)
         exact dx
        exact dx
       exact dx
      have w1 : fy p.text q = false := hs
      refine aj rfl rfl rfl ?_
      refine aj rfl rfl rfl ?_
      refine aj rfl rfl rfl ?_
      refine aj rfl rfl rfl ?_
      refine aj rfl rfl rfl ?_
      refine aj rfl rfl rfl ?_
      refine aj rfl rfl rfl ?_
      refine aj rfl rfl rfl ?_
      refine aj rfl rfl rfl ?_
      refine aj rfl rfl rfl ?_
      refine aj rfl rfl rfl ?_
      refine aj rfl rfl rfl ?_
      refine cn ?_
      refine c7 [20] (by kernel_rfl) (by simp) ?_
      refine dz ?_ ?_
      ·refine ge rfl rfl rfl ?_
       refine c7 [21] (by kernel_rfl) (by simp) ?_
       refine dz ?_ ?_
       ·refine ge rfl rfl rfl ?_
        refine ep [(22, none), (23, none), (24, none), (25, none), (26, none), (27, none), (28, none), (29, none), (30, none), (31, none), (32, none)] (fun i => [22, 23, 24, 25, 26, 27, 28, 29, 30].contains i) 5 (rl [33, 5]) (by kernel_rfl) ?_
        refine ah rfl rfl rfl rfl (ck rfl rfl (by constructor)) ?_
        refine xM rfl rfl rfl rfl rfl ?_
        refine aj rfl rfl rfl ?_
        refine aj rfl rfl rfl ?_
        refine aj rfl rfl rfl ?_
        refine aj rfl rfl rfl ?_
        refine aj rfl rfl rfl ?_
        refine aj rfl rfl rfl ?_
        refine aj rfl rfl rfl ?_
        refine aj rfl rfl rfl ?_
        refine aj rfl rfl rfl ?_
        refine cn ?_
        refine c7 [33] (by kernel_rfl) (by simp) ?_
        refine dz ?_ ?_
        ·refine ge rfl rfl rfl ?_
         refine ep [(34, none), (35, none), (36, none), (37, none)] (fun i => [34, 35, 36, 37].contains i) 0 (rl [38]) (by kernel_rfl) ?_
         refine aj rfl rfl rfl ?_
         refine aj rfl rfl rfl ?_
         refine ah rfl rfl rfl rfl (ck rfl rfl (by constructor)) ?_
         refine ah rfl rfl rfl rfl (cz rfl (by constructor)) ?_
         refine cn ?_
         dsimp only [St.put]
         refine ia (by kernel_rfl) ?_
         refine K50 _ ?_
         refine yR ?_
         refine aa rfl (cg rfl rfl rfl (by omega)) ?_
         refine yM rfl rfl ?_
         refine yN ?_
         dsimp only [St.put]
         refine ⟨i + 1, by omega, by omega, ?_⟩
         try dsimp only
         first
         | (rw [show (d && dt p.text x (di (decide (k = 1)) x) (i + 1)) = false by rw [gy, ← Bool.and_assoc, show (d && dt p.text x (di (decide (k = 1)) x) i) = false from w0, Bool.false_and]]
            exact ⟨⟨rfl, rfl⟩, zF, zB, zN, zX⟩)
         | (rw [show (d && dt p.text x (di (decide (k = 1)) x) (i + 1)) = false by rw [gy, jc hq, show fy p.text q = false from w1]; simp]
            exact ⟨⟨rfl, rfl⟩, zF, zB, zN, zX⟩)
         | (rw [show (d && dt p.text x (di (decide (k = 1)) x) (i + 1)) = false by rw [gy, jc hq, show ib p.text x q = false from w2]; simp]
            exact ⟨⟨rfl, rfl⟩, zF, zB, zN, zX⟩)
         | (rw [show (d && dt p.text x (di (decide (k = 1)) x) (i + 1)) = true by rw [gy, ← Bool.and_assoc, show (d && dt p.text x (di (decide (k = 1)) x) i) = true from w0, jc hq, w1, w2, decide_eq_true (show i = 0 from w3)]; rfl]
            exact ⟨⟨rfl, rfl⟩, zF, zB, zN, zX⟩)
         | (rw [show (d && dt p.text x (di (decide (k = 1)) x) (i + 1)) = decide (mi a q < 0) by rw [gy, ← Bool.and_assoc, show (d && dt p.text x (di (decide (k = 1)) x) i) = true from w0, jc hq, w1, w2, decide_eq_false (show ¬ i = 0 from w3), ha]; rfl]
            exact ⟨⟨rfl, rfl⟩, zF, zB, zN, zX⟩)
        exact dx
       exact dx
      exact dx
     exact dx
    have w0 : (d && dt p.text x (di (decide (k = 1)) x) i) = false := hs
    refine aj rfl rfl rfl ?_
    refine aj rfl rfl rfl ?_
    refine aj rfl rfl rfl ?_
    refine cn ?_
    refine c7 [5] (by kernel_rfl) (by simp) ?_
    refine dz ?_ ?_
    ·refine ge rfl rfl rfl ?_
     refine ep [(6, none), (7, none), (8, none), (9, none), (10, none), (11, none), (12, none), (13, none), (14, none), (15, none), (16, none), (17, none), (18, none), (19, none)] (fun i => [6, 7, 8, 10, 12, 13, 15, 17, 19].contains i) 18 (rl [20, 18]) (by kernel_rfl) ?_
     refine ah rfl rfl rfl rfl (ck rfl rfl (by constructor)) ?_
     refine xM rfl rfl rfl rfl rfl ?_
     refine aj rfl rfl rfl ?_
     refine aj rfl rfl rfl ?_
     refine aj rfl rfl rfl ?_
     refine aj rfl rfl rfl ?_
     refine aj rfl rfl rfl ?_
     refine aj rfl rfl rfl ?_
     refine aj rfl rfl rfl ?_
     refine aj rfl rfl rfl ?_
     refine aj rfl rfl rfl ?_
     refine aj rfl rfl rfl ?_
     refine aj rfl rfl rfl ?_
     refine aj rfl rfl rfl ?_
     refine cn ?_
     refine c7 [20] (by kernel_rfl) (by simp) ?_
     refine dz ?_ ?_
     ·refine ge rfl rfl rfl ?_
      refine c7 [21] (by kernel_rfl) (by simp) ?_
      refine dz ?_ ?_
      ·refine ge rfl rfl rfl ?_
       refine ep [(22, none), (23, none), (24, none), (25, none), (26, none), (27, none), (28, none), (29, none), (30, none), (31, none), (32, none)] (fun i => [22, 23, 24, 25, 26, 27, 28, 29, 30].contains i) 5 (rl [33, 5]) (by kernel_rfl) ?_
       refine ah rfl rfl rfl rfl (ck rfl rfl (by constructor)) ?_
       refine xM rfl rfl rfl rfl rfl ?_
       refine aj rfl rfl rfl ?_
       refine aj rfl rfl rfl ?_
       refine aj rfl rfl rfl ?_
       refine aj rfl rfl rfl ?_
       refine aj rfl rfl rfl ?_
       refine aj rfl rfl rfl ?_
       refine aj rfl rfl rfl ?_
       refine aj rfl rfl rfl ?_
       refine aj rfl rfl rfl ?_
       refine cn ?_
       refine c7 [33] (by kernel_rfl) (by simp) ?_
       refine dz ?_ ?_
       ·refine ge rfl rfl rfl ?_
        refine ep [(34, none), (35, none), (36, none), (37, none)] (fun i => [34, 35, 36, 37].contains i) 0 (rl [38]) (by kernel_rfl) ?_
        refine aj rfl rfl rfl ?_
        refine aj rfl rfl rfl ?_
        refine ah rfl rfl rfl rfl (ck rfl rfl (by constructor)) ?_
        refine ah rfl rfl rfl rfl (cz rfl (by constructor)) ?_
        refine cn ?_
        dsimp only [St.put]
        refine ia (by kernel_rfl) ?_
        refine K50 _ ?_
        refine yR ?_
        refine aa rfl (cg rfl rfl rfl (by omega)) ?_
        refine yM rfl rfl ?_
        refine yN ?_
        dsimp only [St.put]
        refine ⟨i + 1, by omega, by omega, ?_⟩
        try dsimp only
        first
        | (rw [show (d && dt p.text x (di (decide (k = 1)) x) (i + 1)) = false by rw [gy, ← Bool.and_assoc, show (d && dt p.text x (di (decide (k = 1)) x) i) = false from w0, Bool.false_and]]
           exact ⟨⟨rfl, rfl⟩, zF, zB, zN, zX⟩)
        | (rw [show (d && dt p.text x (di (decide (k = 1)) x) (i + 1)) = false by rw [gy, jc hq, show fy p.text q = false from w1]; simp]
           exact ⟨⟨rfl, rfl⟩, zF, zB, zN, zX⟩)
        | (rw [show (d && dt p.text x (di (decide (k = 1)) x) (i + 1)) = false by rw [gy, jc hq, show ib p.text x q = false from w2]; simp]
           exact ⟨⟨rfl, rfl⟩, zF, zB, zN, zX⟩)
        | (rw [show (d && dt p.text x (di (decide (k = 1)) x) (i + 1)) = true by rw [gy, ← Bool.and_assoc, show (d && dt p.text x (di (decide (k = 1)) x) i) = true from w0, jc hq, w1, w2, decide_eq_true (show i = 0 from w3)]; rfl]
           exact ⟨⟨rfl, rfl⟩, zF, zB, zN, zX⟩)
        | (rw [show (d && dt p.text x (di (decide (k = 1)) x) (i + 1)) = decide (mi a q < 0) by rw [gy, ← Bool.and_assoc, show (d && dt p.text x (di (decide (k = 1)) x) i) = true from w0, jc hq, w1, w2, decide_eq_false (show ¬ i = 0 from w3), ha]; rfl]
           exact ⟨⟨rfl, rfl⟩, zF, zB, zN, zX⟩)
       exact dx
      exact dx
     exact dx
    exact dx
   replace hc := of_decide_eq_false hc
   obtain rfl : i = (di (decide (k = 1)) x).length := by omega
   refine dj ?_
   refine K43 _ ?_
   refine yR ?_
   refine aa rfl (cg rfl rfl rfl (by omega)) ?_
   refine yM rfl rfl ?_
   refine yN ?_
   dsimp only [St.put]
   rw [show (d && dt p.text x (di (decide (k = 1)) x) (di (decide (k = 1)) x).length) = pk p (gt p.pages j) x (k + 1) by rw [hd]; simp only [pk, tr, ig, Bool.and_assoc]]
   exact ⟨k + 1, by omega, by omega, ⟨⟨rfl, rfl⟩, zF, zB, zN, zX⟩⟩
  replace hc := of_decide_eq_false hc
  obtain rfl : k = 2 := by omega
  rw [uim]
  refine dj ?_
  refine K39 _ ?_
  refine yS fun _ K52 => ?_
  refine yS fun _ K53 => ?_
  refine yR ?_
  refine yM rfl rfl ?_
  refine aa rfl (eb rfl rfl) ?_
  refine yN ?_
  dsimp only [St.put]
  refine K53 _ ?_
  refine ar rfl (fun hc => ?_) (fun hc => ?_)
  ·have hpg : lx p (gt p.pages j) x = false := by simpa using hc
   have hE : cm p = 90 := xz ht (wj hx hpg)
   rw [hpg]
   refine dj ?_
   refine K32 _ ?_
   refine yS fun _ K54 => ?_
   refine yS fun _ K55 => ?_
   refine yR ?_
   refine yM rfl rfl ?_
   refine aa rfl (eb rfl rfl) ?_
   refine yN ?_
   dsimp only [St.put]
   refine K55 _ ?_
   refine ar rfl (fun _ => ?_) (fun h => by cases h)
   refine yS fun _ K56 => ?_
   refine yR ?_
   refine yA rfl rfl ?_
   refine yA rfl rfl ?_
   refine yN ?_
   dsimp only [St.put]
   refine K56 _ ?_
   refine aq ?_
   refine i6 rfl (by constructor) (by constructor) zN zS ?_ ?_
   ·rw [uc (by rw [hE]; decide)]
   rw [hE]
  have hpg : lx p (gt p.pages j) x = true := by simpa using hc
  have hpo := pageB_true.1 hpg
  rw [hpg]
  refine ax ?_
  refine K52 _ ?_
  refine yS fun _ K57 => ?_
  refine yR ?_
  refine yF rfl rfl rfl rfl ?_
  refine yL rfl rfl rfl ?_
  refine yA rfl rfl ?_
  refine yN ?_
  dsimp only [St.put]
  refine K57 _ ?_
  refine yR ?_
  refine yM rfl rfl ?_
  refine yE rfl rfl rfl ?_
  refine yM rfl rfl ?_
  try dsimp only [St.put]
  refine ae rfl (vd rfl rfl rfl (uo0 p (gt p.pages j) x ((p.pages.take j).map fun x => (fl p.text x : Int)) ((p.pages.take j).map (ey p.text)) ((p.pages.take j).map (d9 p.text)) (nx + 1) (nx + 1 + 1) (nx + 1 + 1 + 1) (nx + 1 + 1 + 1 + 1) (j + j + j) ht hpo (by rw [List.length_map, List.length_take]; omega) (by rw [List.length_map, List.length_take]; omega) (by rw [List.length_map, List.length_take]; omega) _ _ (by dsimp only [St.put]; omega) (by dsimp only [St.put]; omega) (by dsimp only [St.put]; omega) (by dsimp only [St.put]; omega) (by omega) (by omega) (by omega) (by omega) (by omega) (by omega) zG zG zG zG) ?_)
  refine yN ?_
  dsimp only [St.put]
  refine K36 _ ?_
  refine yR ?_
  refine aa rfl (cg rfl rfl rfl (by omega)) ?_
  refine yM rfl rfl ?_
  refine yN ?_
  dsimp only [St.put]
  rw [show j + j + j + 1 + 1 + 1 = (j + 1) + (j + 1) + (j + 1) by omega, ← px (f := fun x => (fl p.text x : Int)) hx, ← px (f := ey p.text) hx, ← px (f := d9 p.text) hx, ← ud8 hx]
  exact ⟨j + 1, by omega, ⟨by omega, by rw [uct, hK.2, zd hx, hpg]; rfl⟩, ⟨⟨rfl, rfl⟩, zF, zB, zN, zX⟩⟩
 replace hc := of_decide_eq_false hc
 obtain rfl : j = p.pages.length := by omega
 rw [List.take_length]
 have hE : cm p = 0 := unq ht (by unfold fw; rw [hRB, decide_eq_true hnp, hK.2]; rfl)
 refine dj ?_
 refine K32 _ ?_
 refine yS fun _ K58 => ?_
 refine yS fun _ K59 => ?_
 refine yR ?_
 refine yM rfl rfl ?_
 refine aa rfl (eb rfl rfl) ?_
 refine yN ?_
 dsimp only [St.put]
 refine K59 _ ?_
 refine ar rfl (fun h => by cases h) (fun _ => ?_)
 refine ax ?_
 refine K58 _ ?_
 refine yS fun _ K60 => ?_
 refine sn (nx + 1) _ [lst p.text, lst p.firsts, lst p.seconds, lst p.pages, lst (p.pages.map fun x => (fl p.text x : Int)), lst (p.pages.map (ey p.text)), lst (p.pages.map (d9 p.text))] zG zW ?_
 refine fj (i := 12) rfl zG (by simp) ?_
 dsimp only
 refine yR ?_
 refine yM rfl rfl ?_
 refine yA rfl rfl ?_
 refine yA rfl rfl ?_
 refine yN ?_
 dsimp only [St.put]
 refine K60 _ ?_
 refine aq ?_
 refine i6 rfl (by constructor) (by constructor) zN zS ?_ ?_
 ·rw [wz hE]
 rw [hE]
end Go.Proofs.YtbbdginipiljdaaDoor
namespace Go.AB
open Go Go.RowKit

theorem EvR.trans {E1 E2 E3 : Env} {w1 w2 w3 : World} (h : EvR E1 w1 E2 w2) (k : EvR E2 w2 E3 w3) : EvR E1 w1 E3 w3 :=
 ⟨k.B.trans h.B, fun b => Nat.le_trans (h.L b) (k.L b), fun b i hi => (k.cell b i (Nat.lt_of_lt_of_le hi (h.L b))).trans (h.cell b i hi), Nat.le_trans h.nx k.nx, fun n hn v3 x3 y3 h3 => by
  obtain ⟨v2, x2, y2, h2, q1, q2⟩ := k.T n (Nat.lt_of_lt_of_le hn h.nx) _ _ _ h3
  obtain ⟨v1, x1, y1, h1, q3, q4⟩ := h.T n hn _ _ _ h2
  exact ⟨v1, x1, y1, h1, Nat.le_trans q3 q1, fun e => (q4 (by omega)).trans (q2 (by omega))⟩⟩
theorem EvR.drop {E E' : Env} {w w' : World} (h : EvR E w E' w') {m : Nat} (hm : E.nx ≤ m) : EvR E w (E'.drop m) w' :=
 ⟨h.B, h.L, h.cell, hm, fun n hn v x y ht => h.T n hn v x y (by
  simp only [Env.drop] at ht
  split at ht
  ·exact ht
  ·cases ht)⟩
theorem EvR.same {E : Env} {w w' : World} (hc : ∀ b i, i < E.L b → w'.cell? ⟨b, i, none⟩ = w.cell? ⟨b, i, none⟩) : EvR E w E w' :=
 ⟨rfl, fun _ => Nat.le_refl _, hc, Nat.le_refl _, fun _ _ v x y ht => ⟨v, x, y, ht, Nat.le_refl _, fun _ => rfl⟩⟩

/-- An iterator at work: what is owned when so many things have come; how many there are; what they are. -/
structure FC where
 G : Nat → Nat → Option GObj
 nx : Nat
 J : Nat → Env → World → Prop
 N : Nat
 l : Nat
 cl : Nat → List C
def FC.st (I : FC) (st : St) (k : Nat) : St := { st with G := I.G k, nx := I.nx, df := 0 }
structure FC.Ok (P : Program) (I : FC) : Prop where
 sim : ∀ {k E W}, I.J k E W → SimG E W (I.G k) I.nx
 F : ∀ {k E W}, I.J k E W → E.F ≤ W.heap.size
 ev : ∀ {k E W E' W'}, I.J k E W → Ev E W E' W' → SimG E' W' (I.G k) I.nx → I.J k E' W'
 hY : ∀ {k E W vs}, I.J k E W → k < I.N → Rs E W (I.cl k) vs → YieldAt (fen none) 1 P I.l vs.toArray W fun e W' => e = .returned (.bool true) ∧ ∃ E', EvR E W E' W' ∧ I.J (k + 1) E' W'
/-- The contract of an iterator's value, where a fact is known by a name. -/
def yb (nF : Nat) (F : GObj) (P : Program) (gf : Nat) (caps : List C) (N : Nat) (cl : Nat → List C) : Prop :=
 ∀ (I : FC), I.N = N → I.cl = cl → I.Ok P → (∀ k, I.G k nF = some F) → nF < I.nx → ∀ (E : Env) (w : World) (lb : List Value), I.J 0 E w → Rs E w caps lb →
  CallsIn (fen none) 2 P gf (#[.func (.yield I.l) #[] #[]] ++ lb.toArray) w fun e W' => (∃ v, e = .returned v) ∧ ∃ E', I.J N E' W'

section
variable (P : Program) (I : FC)
def FW (c : Code) (Q : Exit → St → Nat → Prop) (st : St) (k : Nat) : Prop :=
 ∀ E W a, I.J k E W → Sim E W (I.st st k) a → cwp none P c (fun e a' W' => ∃ E' st' k', I.J k' E' W' ∧ Sim E' W' (I.st st' k') a' ∧ Q e st' k') a W
def ugw (K : St → Nat → Prop) (Q : Exit → St → Nat → Prop) : Exit → St → Nat → Prop
 | .normal, st, k => K st k
 | e, st, k => Q e st k
def ugx (id : Nat) (Q : Exit → St → Nat → Prop) : Exit → St → Nat → Prop
 | .exit id', st, k => if id' = id then Q .normal st k else Q (.exit id') st k
 | e, st, k => Q e st k
def s7 (ops : Array Oper) (K : St → Nat → Prop) (rest : List Oper) (st : St) (k : Nat) : Prop :=
 ∀ E W a, I.J k E W → Sim E W (I.st st k) a → ∀ Q : Exit → Act → World → Prop, (∀ a' E' W' st' k', I.J k' E' W' → Sim E' W' (I.st st' k') a' → K st' k' → Q .normal a' W') → wpListIn (fen none) 1 P ops Q rest a W
end
/-- Cells that name nothing beyond m: what stands in slots last. -/
def lowR (m : Nat) : List Nat → List (Nat × C) → Prop
 | _, [] => True
 | s, p :: r => (s.contains p.1 = true ∨ p.2.low m) ∧ lowR m (p.1 :: s) r
theorem udy {m : Nat} {l : List C} {i : Nat} (hl : (l.getD i .any).low m) : ∀ {r : List (Nat × C)} {s : List Nat}, lowR m s r → s.contains i = false → (bn l r i).low m
 | [], _, _, _ => hl
 | p :: r, s, h, hi => by
  simp only [bn]
  cases hb : Nat.beq p.1 i
  ·rw [cond_false]
   refine udy hl h.2 ?_
   have hne : ¬ p.1 = i := fun e => by rw [e] at hb; simp at hb
   simp only [List.contains_cons, Bool.or_eq_false_iff, beq_eq_false_iff_ne]
   exact ⟨fun e => hne e.symm, hi⟩
  ·rw [cond_true]
   have e := Nat.eq_of_beq_eq_true hb
   rcases h.1 with h1 | h1
   ·rw [e, hi] at h1; cases h1
   ·exact h1

/-- .. so what stood in slots ahead. -/
def lowN (m : Nat) (s : List Nat) : Nat → List C → Prop
 | _, [] => True
 | i, c :: l => (s.contains i = true ∨ c.low m) ∧ lowN m s (i + 1) l
theorem ud0 {m : Nat} {s : List Nat} : ∀ {l : List C} {i j : Nat}, lowN m s i l → s.contains (i + j) = false → (l.getD j .any).low m
 | [], _, _, _, _ => .any
 | c :: l, i, 0, h, hs => by
  rcases h.1 with h1 | h1
  ·rw [Nat.add_zero] at hs; rw [hs] at h1; cases h1
  ·exact h1
 | c :: l, i, j + 1, h, hs => ud0 (l := l) (i := i + 1) (j := j) h.2 (by rw [show i + 1 + j = i + (j + 1) by omega]; exact hs)
theorem udz {m : Nat} {l : List C} {i : Nat} : ∀ {r : List (Nat × C)} {s : List Nat}, ((r.map (·.1)).contains i = false → (l.getD i .any).low m) → lowR m s r → s.contains i = false → (bn l r i).low m
 | [], _, hl, _, _ => hl rfl
 | p :: r, s, hl, h, hi => by
  simp only [bn]
  cases hb : Nat.beq p.1 i
  ·rw [cond_false]
   have hne : ¬ p.1 = i := fun e => by rw [e] at hb; simp at hb
   refine udz (fun hk => hl ?_) h.2 ?_
   ·simp only [List.map_cons, List.contains_cons, Bool.or_eq_false_iff, beq_eq_false_iff_ne]
    exact ⟨fun e => hne e.symm, hk⟩
   ·simp only [List.contains_cons, Bool.or_eq_false_iff, beq_eq_false_iff_ne]
    exact ⟨fun e => hne e.symm, hi⟩
  ·rw [cond_true]
   have e := Nat.eq_of_beq_eq_true hb
   rcases h.1 with h1 | h1
   ·rw [e, hi] at h1; cases h1
   ·exact h1
/-- so that what stands in slots last names nothing beyond what is owned -/
theorem zK {p : Prop} (h : p := by (try dsimp only); repeat' (first | exact trivial | exact .inl rfl | refine ⟨?_, ?_⟩ | exact .v | exact .any | refine .inr ?_ | refine .elem ?_ | refine .agg ?_ | refine .tup ?_ | refine .fn ?_ | exact br _ _ | exact fq _ _ | exact ei _ _ | exact f4 _ (by (try dsimp only); omega) | exact .box (by (try dsimp only); omega) | exact fk | exact dh | exact fa _ | refine ci ?_ ?_)) : p := h
section
variable {P : Program} {I : FC} {Q : Exit → St → Nat → Prop} {st : St} {k : Nat}
theorem uy (h : Q .normal st k) : FW P I .skip Q st k := fun _ _ _ hj hs => wpIn_skip ⟨_, st, k, hj, hs, h⟩
theorem uak {id : Nat} (h : Q (.exit id) st k) : FW P I (.exit id) Q st k := fun _ _ _ hj hs => wpIn_exit ⟨_, st, k, hj, hs, h⟩
theorem p9 {x z : Code} (h : ∀ K : St → Nat → Prop, (∀ st' k', FW P I z Q st' k' → K st' k') → FW P I x (ugw K Q) st k) : FW P I (.seq x z) Q st k := by
 intro E W a hj hs
 refine wpIn_seq (wpIn_mono (h _ (fun _ _ h => h) E W a hj hs) ?_)
 rintro e a' W' ⟨E', st', k', h1, h2, h3⟩
 cases e with
 | normal => exact h3 E' W' a' h1 h2
 | _ => exact ⟨E', st', k', h1, h2, h3⟩
theorem sf {id : Nat} {c : Code} (h : FW P I c (ugx id Q) st k) : FW P I (.block id c) Q st k := by
 intro E W a hj hs
 refine wpIn_block (wpIn_mono (h E W a hj hs) ?_)
 rintro e a' W' ⟨E', st', k', h0, h1, h2⟩
 cases e with
 | exit id' =>
  simp only [ugx] at h2
  simp only [Exit.inBlock]
  split at h2
  ·rename_i e; rw [if_pos e]; exact ⟨E', st', k', h0, h1, h2⟩
  ·rename_i e; rw [if_neg e]; exact ⟨E', st', k', h0, h1, h2⟩
 | _ => exact ⟨E', st', k', h0, h1, h2⟩
theorem uz {c : Operand} {x z : Code} {b : Bool} (hc : evC st c = .v (.bool b)) (ht : b = true → FW P I x Q st k) (hf : b = false → FW P I z Q st k) : FW P I (.cond c x z) Q st k := by
 intro E W a hj hs
 have : evC (I.st st k) c = .v (.bool b) := hc
 exact wpIn_cond_split ((this ▸ hs.ev c).v_inv) (fun e => ht e E W a hj hs) (fun e => hf e E W a hj hs)
theorem lf {c : Code} (m : Nat) (h : FW P I c Q { st with l := firsts st.l st.r 0 m, r := [] } k) : FW P I c Q st k := fun E W a hj hs => h E W a hj (hs.wipe m)
theorem uaj {X : Type} {c : Code} (Inv : X → Prop) (μ : X → Nat) (u : X → List (Nat × C)) (kk : X → Nat) (x0 : X) (hr : st.r = []) (h0 : Inv x0) (e0 : rk st.l [] (u x0)) (hk : k = kk x0)
  (hu : ∀ x, Inv x → pz I.nx (u x))
  (round : ∀ x, Inv x → FW P I c (ugw (fun st' k' => ∃ x', μ x' < μ x ∧ Inv x' ∧ k' = kk x' ∧ Back (I.st st k) (u x') (I.G k') (I.st st' k')) Q) { st with r := u x } (kk x)) : FW P I (.loop c) Q st k := by
 intro E W a hj hs
 refine ufo (fun m a1 W1 => ∃ x E1, m = μ x ∧ Inv x ∧ I.J (kk x) E1 W1 ∧ Sim E1 W1 (I.st { st with r := u x } (kk x)) a1) (μ x0) ⟨x0, E, rfl, h0, hk ▸ hj, ?_⟩ ?_
 ·have := le_r (n := st.n) (G := I.G k) (nx := I.nx) (df := 0) e0 rfl E W a (by rw [← hr]; exact hs)
  rw [← hk]
  exact this
 ·rintro m a1 W1 ⟨x, E1, rfl, hI, hj1, hs1⟩
  refine wpIn_mono (round x hI E1 W1 a1 hj1 hs1) ?_
  rintro e a' W' ⟨E', st', k', h1, h2, h3⟩
  cases e with
  | normal =>
   obtain ⟨x', q1, q2, rfl, q3⟩ := h3
   refine ⟨μ x', q1, x', E', rfl, q2, h1, ?_⟩
   refine ⟨by have := h2.d; exact this, h2.sz.trans (show st'.n = st.n from q3.n.1), fun i v hv => ?_, h2.g⟩
   have hcl : bn st.l (u x') i = .any ∨ bn st.l (u x') i = bn st'.l st'.r i := by
    by_cases hi : i < st.l.length
    ·rcases xq _ _ q3.fits i (Nat.zero_le _) (by show i < 0 + st.l.length; omega) with h | h
     ·exact .inl h
     ·exact .inr h.symm
    ·rcases uw st.l (u x') i with ⟨p, hp, he, he2⟩ | ⟨_, he⟩
     ·rcases q3.keys with hk | hk
      ·have : p.1 < st.l.length := xf hk p hp
       omega
      ·rcases xp hk p hp with h | h
       ·left; rw [he2, h]
       ·right; rw [he2, ← h, he]; rfl
     ·left; rw [he, List.getD_eq_getElem?_getD, List.getElem?_eq_none (by omega)]; rfl
   show R E' W' (bn st.l (u x') i) v
   rcases hcl with h | h
   ·rw [h]; exact .any
   ·rw [h]; exact h2.t i v hv
  | _ => exact ⟨E', st', k', h1, h2, h3⟩
/-- What plain code must leave. -/
def SegP (I : FC) (k : Nat) (l : List C) (n : Nat) (st' : St) : Prop := st'.df = 0 ∧ st'.n = n ∧ (st'.l = l ∨ lowN I.nx (st'.r.map (·.1)) 0 st'.l) ∧ I.nx ≤ st'.nx ∧ (∀ n o, I.G k n = some o → st'.G n = some o) ∧ lowR I.nx [] st'.r
theorem ubz (ok : I.Ok P) {E : Env} {W : World} {a : Act} (hj : I.J k E W) (hs : Sim E W (I.st st k) a) (hr : st.r = []) {E' : Env} {W' : World} {st' : St} {a' : Act} (h1 : Ev E W E' W') (h2 : Sim E' W' st' a') (h3 : SegP I k st.l st.n st') : I.J k (E'.drop I.nx) W' ∧ Sim (E'.drop I.nx) W' (I.st st' k) a' := by
 obtain ⟨q1, q2, q3, q4, q5, q6⟩ := h3
 have hnx : E.nx = I.nx := hs.g.nx
 have hlow := hs.lowG
 have hgl : ∀ n o, I.G k n = some o → n < I.nx ∧ o.low I.nx := hlow
 have hll : ∀ i, i < st.n → (st.l.getD i .any).low I.nx := fun i hi => by
  have := hs.low i hi
  have e : bn (I.st st k).l (I.st st k).r i = st.l.getD i .any := by show bn st.l st.r i = _; rw [hr]; rfl
  rw [e] at this
  exact this
 have hs' := h2.dropTo (st' := I.st st' k) rfl q1.symm q4 (fun i hi => .inr ⟨rfl, by
  rcases q3 with q3 | q3
  ·exact udy (q3 ▸ hll i (q2 ▸ hi)) q6 rfl
  ·exact udz (fun hk => ud0 (i := 0) q3 (by rw [Nat.zero_add]; exact hk)) q6 rfl⟩) (fun n o ho => ⟨q5 n o ho, hgl n o ho⟩)
 exact ⟨ok.ev hj (h1.drop (by omega)) hs'.g, hs'⟩
/-- Plain code. -/
theorem uai (ok : I.Ok P) {c : Code} (hr : st.r = []) (h : AW none P c (fun e st' => SegP I k st.l st.n st' ∧ Q e st' k) (I.st st k)) : FW P I c Q st k := by
 intro E W a hj hs
 refine il ?_ (h E W a hs)
 rintro e a' W' ⟨st', E', h1, h2, h3⟩
 obtain ⟨q1, q2⟩ := ubz ok hj hs hr h1 h2 h3.1
 exact ⟨_, st', k, q1, q2, h3.2⟩
/-- .. so many pieces of it: what lies between. -/
def j9 (P : Program) (I : FC) (z : Code) (Q : Exit → St → Nat → Prop) (k : Nat) (st0 st1 : St) : Prop :=
 ∀ E0 W0 a0 E1 W1 a1, I.J k E0 W0 → Sim E0 W0 (I.st st0 k) a0 → Ev E0 W0 E1 W1 → Sim E1 W1 st1 a1 → cwp none P z (fun e a' W' => ∃ E' st' k', I.J k' E' W' ∧ Sim E' W' (I.st st' k') a' ∧ Q e st' k') a1 W1
theorem qa {x z : Code} (h : AW none P x (ph (j9 P I z Q k st) fun _ _ => False) (I.st st k)) : FW P I (.seq x z) Q st k := by
 intro E W a hj hs
 refine wpIn_seq (il ?_ (h E W a hs))
 rintro e a1 W1 ⟨st1, E1, h1, h2, h3⟩
 cases e with
 | normal => exact h3 E W a E1 W1 a1 hj hs h1 h2
 | _ => exact h3.elim
theorem xm {x z : Code} {st1 : St} (h : AW none P x (ph (j9 P I z Q k st) fun _ _ => False) st1) : j9 P I (.seq x z) Q k st st1 := by
 intro E0 W0 a0 E1 W1 a1 hj hs hev hs1
 refine wpIn_seq (il ?_ (h E1 W1 a1 hs1))
 rintro e a2 W2 ⟨st2, E2, h1, h2, h3⟩
 cases e with
 | normal => exact h3 E0 W0 a0 E2 W2 a2 hj hs (hev.trans h1) h2
 | _ => exact h3.elim
theorem qb (ok : I.Ok P) {z : Code} {st1 : St} (hr : st.r = []) (hp : SegP I k st.l st.n st1) (h : FW P I z Q st1 k) : j9 P I z Q k st st1 := by
 intro E0 W0 a0 E1 W1 a1 hj hs hev hs1
 obtain ⟨q1, q2⟩ := ubz ok hj hs hr hev hs1 hp
 exact h _ W1 a1 q1 q2
theorem uel {id : Nat} {l : List Oper} (h : s7 P I l.toArray (Q .normal) l st k) : FW P I (.region id l.toArray false) Q st k := fun E W a hj hs =>
 wpIn_region_lit (h E W a hj hs _ fun a' E' W' st' k' h0 h1 h2 => ⟨E', st', k', h0, h1, h2⟩)
variable {ops : Array Oper} {K : St → Nat → Prop} {rest : List Oper} {o : Oper} {c : C}
theorem uep (h : K st k) : s7 P I ops K [] st k := fun E W a hj hs _ hq => wpListIn_nil (hq a E W st k hj hs h)
theorem qy (hg : et ops st o = some true) (hq : NStep P o (I.st st k) c) (h : s7 P I ops K rest (st.put o.dst c) k) : s7 P I ops K (o :: rest) st k := by
 intro E W a hj hs Q hQ
 have hg' : et ops (I.st st k) o = some true := hg
 refine wpListIn_step fun Kr hK => ?_
 rw [if_pos (l6 hg' hs)]
 obtain ⟨v, h1, h2⟩ := hq E W a hs
 refine zi (xk hg).2 ?_
 unfold Oper.wp
 rw [h2 W]
 have hp := hs.put o.dst h1
 exact hK _ _ (h E W _ hj (by cases hd : o.dst <;> (rw [hd] at hp; exact hp)) Q hQ)
/-- A call of yield. -/
theorem ueo (ok : I.Ok P) {fv : Operand} {args : List Operand} {ats : Array TypeId} {cs : List C} (hk : k < I.N) (hg : et ops st o = some true) (ho : o.op = .call { callee := .value fv, args := args.toArray, argTypes := ats }) (hf : evC st fv = .v (.func (.yield I.l) #[] #[])) (has : args.map (evC st) = cs) (hcs : cs = I.cl k)
  (h1 : s7 P I ops K rest (st.put o.dst (.v (.bool true))) (k + 1)) : s7 P I ops K (o :: rest) st k := by
 intro E W a hj hs Q hQ
 have hg' : et ops (I.st st k) o = some true := hg
 have hf' : evC (I.st st k) fv = .v (.func (.yield I.l) #[] #[]) := hf
 refine wpListIn_step fun Kr hK => ?_
 rw [if_pos (l6 hg' hs)]
 have hfv := (hf' ▸ hs.ev fv).v_inv
 subst hcs
 have hra : Rs E W (I.cl k) (args.map a.eval) := by
  rw [← has]
  refine ⟨by simp, fun j c v h1 h2 => ?_⟩
  rw [List.getElem?_map] at h1 h2
  cases hx : args[j]? with
  | none => rw [hx] at h1; cases h1
  | some x =>
   rw [hx] at h1 h2
   simp only [Option.map_some, Option.some.injEq] at h1 h2
   subst h1; subst h2
   exact hs.ev x
 obtain ⟨fn, tmps, assign, body, hy, hR⟩ := ok.hY hj hk hra
 refine ⟨fun _ _ => trivial, ?_⟩
 rw [Oper.semAt_eq _ _ _ (xk hg).2]
 have hrun : (execOp a.eval o).run P W = .ok (.round I.l fn tmps assign body) W := by
  simp only [execOp, ho, resolve, hfv]
  simp [Deferred.ofValue, invoke]
  simpa using hy
 rw [hrun]
 refine ⟨fun e => (by cases e), uja (hR.mono ?_)⟩
 rintro e W' ⟨rfl, E', h3, h4⟩
 refine hK _ _ (h1 E' W' _ h4 ?_ Q hQ)
 have hdef : a.defers = [] := List.eq_nil_of_length_eq_zero hs.d.2
 have hs' : Sim E' W' (I.st st (k + 1)) a := by
  refine ⟨⟨?_, hs.d.2⟩, hs.sz, fun i v hv => (hs.t i v hv).evr h3, ok.sim h4⟩
  rw [hdef]
  exact ok.F h4
 have hp := hs'.put o.dst (c := .v (.bool true)) (v := .bool true) (.v rfl)
 cases hd : o.dst <;> (rw [hd] at hp; exact hp)
end
theorem Rs.evr2 {E E' : Env} {w w' : World} {cs : List C} {vs : List Value} (h : Rs E w cs vs) (k : Ev E w E' w') : Rs E' w' cs vs := ⟨h.1, fun j c v h1 h2 => (h.2 j c v h1 h2).ev k⟩
theorem uec {nF : Nat} {F : GObj} {P : Program} {gf : Nat} {fn : Func} {c : Code} {caps : List C} {N : Nat} {cl : Nat → List C} (hf : P.funcs[gf]? = some fn) (hb : fn.body = some c) (hr : fn.results = #[])
  (h : ∀ I : FC, I.N = N → I.cl = cl → I.Ok P → (∀ k, I.G k nF = some F) → nF < I.nx →
   FW P I c (fun e _ k => (e = .normal ∨ e = .ret) ∧ k = N) { n := caps.length + 1 + (fn.ntmps - (caps.length + 1)), l := .v (.func (.yield I.l) #[] #[]) :: caps, r := [], G := noG, nx := 0 } 0) : yb nF F P gf caps N cl := by
 intro I hN hcl ok hG hn E w lb hj hrs
 have hargs : Rs E w (.v (.func (.yield I.l) #[] #[]) :: caps) (.func (.yield I.l) #[] #[] :: lb) := Rs.cons (.v rfl) hrs
 have hsim := Sim.start hargs (ok.sim hj) (ok.F hj) fn.ntmps
 have e1 : (#[.func (.yield I.l) #[] #[]] ++ lb.toArray : Array Value) = (.func (.yield I.l) #[] #[] :: lb).toArray := by simp
 rw [e1]
 have hw := h I hN hcl ok hG hn E w _ hj (show Sim E w (FC.st I _ 0) _ by unfold FC.st; simpa using hsim)
 refine callsIn_of_wp_marks hf hb trivial (wpIn_mono (ufn (m := 2) hw) ?_)
 rintro e a' w' ⟨E', st', k', q1, q2, q3, rfl⟩
 have hd : a'.defers = [] := List.eq_nil_of_length_eq_zero q2.d.2
 have fin : bodyPostM (fen none) 2 P fn (fun e W' => (∃ v, e = .returned v) ∧ ∃ E', I.J k' E' W') .ret a' w' := by
  show LeavesInM (fen none) 2 P fn a'.tmps _ a'.defers .returning w'
  rw [hd]
  exact ⟨_, results_none hr _ _ _, ⟨_, rfl⟩, E', q1⟩
 rcases q3 with rfl | rfl
 ·exact fin
 ·exact fin

def vm (J : Nat → Nat → Option GObj) (k : Nat) (e : Exit) (st : St) : Prop :=
 match e with
 | .normal => ∀ n o, J k n = some o → st.G n = some o
 | _ => False
theorem uga {P : Program} {nF : Nat} {F : GObj} {N : Nat} {g : Operand} {ps : Array Tmp} {assign body : Code} {Q : Exit → St → Prop} {st : St} {gf : Nat} [Fun P gf] {caps : List C} {cl : Nat → List C} (pl : List Tmp)
  (J : Nat → Nat → Option GObj) (u : Nat → List (Nat × C)) (it : yb nF F P gf caps N cl) (hJF : ∀ k, J k nF = some F) (hnF : nF < st.nx)
  (hg : evC st g = .fn (.func gf) caps) (hps : ps = pl.toArray) (hlen : ∀ k, (cl k).length = pl.length)
  (hu : ∀ k, putL pl (cl k) { st with G := J k, df := 0 } = { st with r := u k, G := J k, df := 0 })
  (h0 : ∀ n o, J 0 n = some o → st.G n = some o) (hJ : ∀ k n o, J k n = some o → st.G n = some o ∨ (n < st.nx ∧ o.low st.nx))
  (round : ∀ l k, k < N → AW (some l) P assign (ph (AW (some l) P body (vm J (k + 1))) fun _ _ => False) { st with r := u k, G := J k, df := 0 })
  (done : Q .normal { st with G := J N, df := st.df + 1 }) : AW none P (.rangeFunc g ps assign body) Q st := by
 intro E w a hs
 obtain ⟨vs, hgv, hvs⟩ := (hg ▸ hs.ev g).fn_inv
 have hlow : ∀ {G : Nat → Option GObj}, (∀ n o, G n = some o → st.G n = some o ∨ (n < st.nx ∧ o.low st.nx)) → ∀ n o, G n = some o → n < st.nx ∧ o.low st.nx := fun h n o ho => by
  rcases h n o ho with h1 | h1
  ·exact hs.lowG n o h1
  ·exact h1
 have hF : E.F ≤ w.heap.size := hs.d.F
 have hnx := hs.g.nx
 have simAt : ∀ {E1 : Env} {W : World} {G : Nat → Option GObj} {ds : List Deferred} {k : Nat}, Ev E w E1 W → SimG E1 W G st.nx → DefN E1 W k ds → Sim E1 W { st with G := G, df := k } { a with defers := ds } := fun hev hg1 hd =>
  ⟨hd, hs.sz, fun i v hv => (hs.t i v hv).ev hev, hg1⟩
 have marked : ∀ {E1 : Env} {W : World} {D : Nat}, Ev E w E1 W → (∀ n t, E1.T n = some t → n < st.nx) → NCB st.nx w.heap.size E1 W → w.heap.size ≤ D → W.heap[D]? = some (.deferred (some [])) → DefN E1 W (st.df + 1) ({ target := .collected D, args := #[] } :: a.defers) := fun {E1 W D} hev hlt hn hD hK => by
  refine ⟨⟨⟨D, rfl, by rw [hev.x.F]; omega, hK, fun n t ht hb => ?_, ?_⟩, (hs.d.ev hev).1⟩, by simp [hs.d.2]⟩
  ·have := hn n t D _ (hlt n t ht) ht hb hK rfl
   omega
  ·have : ∀ {ds : List Deferred}, DefOk E w ds → ∀ d' ∈ ds, d'.target ≠ .collected D := by
    intro ds
    induction ds with
    | nil => exact fun _ d' h => by cases h
    | cons d ds ih =>
     rintro ⟨⟨D', e', _, h2, _⟩, k⟩ d' hd'
     rcases List.mem_cons.1 hd' with rfl | hd'
     ·rw [e']
      intro e
      simp only [Target.collected.injEq] at e
      have := (Array.getElem?_eq_some_iff.1 h2).1
      omega
     ·exact ih k d' hd'
   exact this hs.d.1
 refine ufn (n := 3) (wpIn_rangeFunc fun fn _ => ?_)
 -- the loop's record and the block for deferred calls
 obtain ⟨rc, hrc⟩ : ∃ rc : LoopState → Option Code → Loop, rc = fun s pe => { state := s, pending := pe, fn, tmps := a.tmps, params := ps, assign, body, defers := w.heap.size } := ⟨_, rfl⟩
 obtain ⟨W1, hW1⟩ : ∃ W1, (w.alloc (.deferred (some []))).alloc (.loop (rc .ready none)) = W1 := ⟨_, rfl⟩
 have sz1 : W1.heap.size = w.heap.size + 2 := by rw [← hW1]; simp
 have gr1 : w.grownBy W1 none := by
  refine ⟨by rw [← hW1]; rfl, by rw [← hW1]; rfl, by rw [← hW1]; rfl, by omega, fun k hk _ => ?_⟩
  rw [← hW1, Below.heap_alloc _ _ _ (by simp; omega), Below.heap_alloc _ _ _ hk]
 have recs : W1.heap[w.heap.size + 1]? = some (.loop (rc .ready none)) ∧ W1.heap[w.heap.size]? = some (.deferred (some [])) := by
  rw [← hW1]
  refine ⟨by have := World.alloc_heap_new (w.alloc (.deferred (some []))) (.loop (rc .ready none)); simpa using this, ?_⟩
  rw [Below.heap_alloc _ _ _ (by simp)]
  exact World.alloc_heap_new w _
 have own1 : OwnW E w (J 0) st.nx W1 := OwnW.turn hs.g ⟨E, Ev.refl E w, hs.g.weak h0, fun n t b o _ ht hb _ _ => (hs.g.tb n t.1 t.2.1 t.2.2 b ht hb).2⟩ gr1 (fun r e => by cases e)
 refine ⟨w.heap.size + 1, [{ target := .collected w.heap.size, args := #[] }], W1, { target := .fn (.func gf) vs.toArray, args := #[.func (.yield (w.heap.size + 1)) #[] #[]] }, W1, gf, #[.func (.yield (w.heap.size + 1)) #[] #[]] ++ vs.toArray, W1, ?_, ?_, fun _ _ => trivial, ?_, fun e => (by cases e), ?_⟩
 ·rw [← hW1, hrc]; exact run_enterLoop_outer _ _ _ _ _
 ·simp only [resolve, hgv]; simp [go_sem]
 ·simp [invoke, go_sem, y4]
 have below1 : Below w.heap.size w W1 := ⟨gr1.os, gr1.tape, gr1.output, gr1.size, fun k hk => gr1.block k hk (by simp)⟩
 obtain ⟨E0, hev0, hsg0, hn0⟩ := own1
 have unt : ∀ {E1 : Env} {W : World} {k : Nat} {G : Nat → Option GObj} {o : Obj}, SimG E1 W G st.nx → NCB st.nx w.heap.size E1 W → w.heap.size ≤ k → W.heap[k]? = some o → o.isCells = false → ∀ n t, E1.T n = some t → blk t.2.2 ≠ some k := fun {E1 W k G o} hs1 hn hk' ho hf n t ht hb => by
  have hE1 : E1.nx = st.nx := hs1.nx
  have := hn n t k o (hE1 ▸ hs1.lt n t ht) ht hb ho hf
  omega
 obtain ⟨I, hI⟩ : ∃ I : FC, I = { G := J, nx := st.nx, N := N, l := w.heap.size + 1, cl := cl, J := fun k E1 W => Ev E w E1 W ∧ SimG E1 W (J k) st.nx ∧ NCB st.nx w.heap.size E1 W ∧ W.heap[w.heap.size + 1]? = some (.loop (rc .ready none)) ∧ W.heap[w.heap.size]? = some (.deferred (some [])) } := ⟨_, rfl⟩
 have hIJ : ∀ k E1 W, I.J k E1 W = (Ev E w E1 W ∧ SimG E1 W (J k) st.nx ∧ NCB st.nx w.heap.size E1 W ∧ W.heap[w.heap.size + 1]? = some (.loop (rc .ready none)) ∧ W.heap[w.heap.size]? = some (.deferred (some []))) := fun k E1 W => by rw [hI]
 have ok : I.Ok P := by
  refine ⟨fun {k E1 W} h => ?_, fun {k E1 W} h => ?_, fun {k E1 W E2 W2} h h1 h2 => ?_, ?_⟩
  ·rw [hIJ] at h; rw [hI]; exact h.2.1
  ·rw [hIJ] at h
   rw [h.1.x.F]; exact Nat.le_trans hF h.1.below.size
  ·rw [hIJ] at h ⊢
   rw [hI] at h2
   obtain ⟨q1, q2, q3, q4, q5⟩ := h
   have hE1 : E1.nx = st.nx := q2.nx
   exact ⟨q1.trans h1, h2, q3.step (by omega) q2 h1, h1.x.oth _ _ q4 (unt q2 q3 (by omega) q4 rfl), h1.x.oth _ _ q5 (unt q2 q3 (Nat.le_refl _) q5 rfl)⟩
  -- a round
  rintro k E1 W us hj hkN hcl
  rw [hIJ] at hj
  obtain ⟨hev, hs1, hn, hl, hk⟩ := hj
  have hkN' : k < N := by rw [hI] at hkN; exact hkN
  replace hcl : Rs E1 W (cl k) us := by rw [hI] at hcl; exact hcl
  have hul : us.length = pl.length := by rw [hcl.1]; exact hlen k
  have hE1 : E1.nx = st.nx := hs1.nx
  have unt : ∀ {k : Nat} {o : Obj}, w.heap.size ≤ k → W.heap[k]? = some o → o.isCells = false → ∀ n t, E1.T n = some t → blk t.2.2 ≠ some k := fun h1 h2 h3 => unt hs1 hn h1 h2 h3
  have hIl : I.l = w.heap.size + 1 := by rw [hI]
  rw [hIl]
  have hy := run_yield (P := P) (args := us.toArray) hl (by rw [hrc]; simp [hps, hul])
  rw [hrc] at hy
  refine ⟨fn, _, assign, body, hy, roundIn_of_wpIn trivial ?_⟩
  clear hy
  have ha0 : ({ tmps := (ps.zip us.toArray).foldl (fun t (p, v) => t.setIfInBounds p v) a.tmps, defers := [] } : Act) = tx pl us { tmps := a.tmps, defers := [] } := by
   rw [ucm, hps]
   simp
  have hF1 : E1.F ≤ W.heap.size := by rw [hev.x.F]; exact Nat.le_trans hF hev.below.size
  have hsim := ubw pl hcl (simAt (ds := []) (k := 0) hev hs1 ⟨hF1, rfl⟩)
  rw [hu k] at hsim
  show assign.wpIn (fen (some (w.heap.size + 1))) 1 P _ { tmps := (ps.zip us.toArray).foldl (fun t (p, v) => t.setIfInBounds p v) a.tmps, defers := [] } W
  rw [ha0]
  refine wpIn_mono (round (w.heap.size + 1) k hkN' E1 W _ hsim) ?_
  rintro e a1 Wa ⟨st1, E2, q1, q2, q3⟩
  cases e with
  | normal =>
   have hla := q1.x.oth _ _ hl (unt (by omega) hl rfl)
   have hka := q1.x.oth _ _ hk (unt (Nat.le_refl _) hk rfl)
   have hlta := (Array.getElem?_eq_some_iff.1 hla).1
   refine ⟨_, run_beginRound hla (by rw [hrc]), ?_⟩
   -- the record is busy
   have unt2 : ∀ {k : Nat} {o : Obj}, w.heap.size ≤ k → W.heap[k]? = some o → o.isCells = false → ∀ n t, E2.T n = some t → blk t.2.2 ≠ some k := fun {k o} hk' ho hf n t ht hb => by
    obtain ⟨t0, h1, h2⟩ := q1.x.nb n t k o ht hb ho
    exact unt hk' ho hf n t0 h1 h2
   obtain ⟨Wb, hWb⟩ : ∃ Wb, Wa.putObj (w.heap.size + 1) (.loop { rc .ready none with state := .busy }) = Wb := ⟨_, rfl⟩
   rw [hWb]
   have grb : Wa.grownBy Wb (some (w.heap.size + 1)) := hWb ▸ grownBy_putObj' _ _ _
   have hlb : Wb.heap[w.heap.size + 1]? = some (.loop { rc .ready none with state := .busy }) := hWb ▸ World.putObj_heap_same hlta
   have hkb : Wb.heap[w.heap.size]? = some (.deferred (some [])) := (grb.block _ (Array.getElem?_eq_some_iff.1 hka).1 (by simp)).trans hka
   obtain ⟨evb, hcellb⟩ := (hev.trans q1).turn hs.g q2.g.fresh grb (fun r e => by cases e; exact ⟨by omega, _, hla, rfl⟩)
   have hblkb : ∀ n t b, E2.T n = some t → blk t.2.2 = some b → Wb.heap[b]? = Wa.heap[b]? := fun n t b ht hb => by
    refine grb.block b (q2.g.tb n t.1 t.2.1 t.2.2 b ht hb).2 fun e => ?_
    simp only [Option.some.injEq] at e
    subst e
    exact unt2 (by omega) hl rfl n t ht hb
   have gb := q2.g.heap hcellb hblkb grb.size
   have db : DefN E2 Wb st1.df a1.defers := by
    have : ∀ {ds : List Deferred}, DefOk E2 Wa ds → DefOk E2 Wb ds := by
     intro ds
     induction ds with
     | nil => exact fun h => Nat.le_trans h grb.size
     | cons d ds ih =>
      rintro ⟨⟨D', e', h1, h2, h3, h4⟩, k⟩
      refine ⟨⟨D', e', h1, (grb.block D' (Array.getElem?_eq_some_iff.1 h2).1 fun e => ?_).trans h2, h3, h4⟩, ih k⟩
      simp only [Option.some.injEq] at e
      subst e
      rw [hla] at h2; cases h2
    exact ⟨this q2.d.1, q2.d.2⟩
   have simb : Sim E2 Wb st1 a1 := ⟨db, q2.sz, fun i v hv => (q2.t i v hv).same (fun _ => Nat.le_refl _) hcellb rfl rfl, gb⟩
   have nb2 : NCB st.nx w.heap.size E2 Wb := fun n t b o hm ht hb ho hf => by
    have := hblkb n t b ht hb
    exact hn.step (by omega) hs1 q1 n t b o hm ht hb (this.symm.trans ho) hf
   have hm2 : st.nx ≤ E2.nx := hE1 ▸ q1.nx
   refine wpIn_mono (q3 E2 Wb a1 simb) ?_
   rintro e a3 W3 ⟨st', E3, r1, r2, r3⟩
   have hl3 := r1.x.oth _ _ hlb (unt2 (by omega) hl rfl)
   have hk3 := r1.x.oth _ _ hkb (unt2 (Nat.le_refl _) hk rfl)
   have nb3 := nb2.step hm2 gb r1
   have own : ∀ {Gk : Nat → Option GObj}, (∀ n o, Gk n = some o → st'.G n = some o) → (∀ n o, Gk n = some o → n < st.nx ∧ o.low st.nx) → OwnW E w Gk st.nx W3 := fun {Gk} hsub hlw =>
    ⟨E3.drop st.nx, (evb.trans r1).drop (by omega), (r2.g.weak hsub).drop hlw, fun n t b o hm ht hb ho hf => nb3 n t b o hm (by simp only [Env.drop] at ht; rw [if_pos hm] at ht; exact ht) hb ho hf⟩
   -- the end of the round
   have fin : ∀ (jump : Option Code), (Instr.endRound (w.heap.size + 1) jump).run P W3 = .ok (.bool jump.isNone) (W3.putObj (w.heap.size + 1) (.loop (rc (if jump.isNone then .ready else .done) jump))) ∧
     (W3.putObj (w.heap.size + 1) (.loop (rc (if jump.isNone then .ready else .done) jump))).heap[w.heap.size + 1]? = some (.loop (rc (if jump.isNone then .ready else .done) jump)) ∧
     (W3.putObj (w.heap.size + 1) (.loop (rc (if jump.isNone then .ready else .done) jump))).heap[w.heap.size]? = some (.deferred (some [])) := fun jump => by
    refine ⟨?_, World.putObj_heap_same (Array.getElem?_eq_some_iff.1 hl3).1, (World.putObj_heap_other (by omega)).trans hk3⟩
    have := run_endRound (P := P) jump hl3
    rw [hrc] at this ⊢
    exact this
   have keep : ∀ jump, KeepL E W (W3.putObj (w.heap.size + 1) (.loop (rc (if jump.isNone then .ready else .done) jump))) := fun jump => ⟨by
    rw [World.putObj_size]
    exact Nat.le_trans q1.below.size (Nat.le_trans grb.size r1.below.size), fun b i hi => by
    have hne : b ≠ w.heap.size + 1 := fun e => by subst e; rw [hs.g.fresh _ (by omega)] at hi; omega
    refine (World.cell?_of_block (w := W3) (World.putObj_heap_other hne)).trans ?_
    have h1 : i < E1.L b := Nat.lt_of_lt_of_le hi (hev.L b)
    have h2 : i < E2.L b := Nat.lt_of_lt_of_le h1 (q1.L b)
    exact (r1.cell b i h2).trans ((hcellb b i h2).trans (q1.cell b i h1))⟩
   cases e with
   | normal =>
    obtain ⟨h1, h2, h3⟩ := fin none
    have hjm : ∀ n o, J (k + 1) n = some o → n < st.nx ∧ o.low st.nx := hlow (hJ _)
    have hown : OwnW E w (J (k + 1)) st.nx W3 := own r3 hjm
    have hevd : Ev E w (E3.drop st.nx) W3 := (evb.trans r1).drop (by omega)
    have hsgd : SimG (E3.drop st.nx) W3 (J (k + 1)) st.nx := (r2.g.weak r3).drop hjm
    have hncd : NCB st.nx w.heap.size (E3.drop st.nx) W3 := fun n t b o hm ht hb ho hf => nb3 n t b o hm (by simp only [Env.drop] at ht; rw [if_pos hm] at ht; exact ht) hb ho hf
    obtain ⟨W4, hW4⟩ : ∃ W4, W3.putObj (w.heap.size + 1) (.loop (rc (if (none : Option Code).isNone then .ready else .done) none)) = W4 := ⟨_, rfl⟩
    have gr4 : W3.grownBy W4 (some (w.heap.size + 1)) := hW4 ▸ grownBy_putObj' _ _ _
    have hrow : ∀ r, some (w.heap.size + 1) = some r → w.heap.size ≤ r ∧ ∃ o : Obj, W3.heap[r]? = some o ∧ o.isCells = false := fun r e => by cases e; exact ⟨by omega, _, hl3, rfl⟩
    obtain ⟨ev4, hcell4⟩ := hevd.turn hs.g hsgd.fresh gr4 hrow
    have unt3 : ∀ n t b, (E3.drop st.nx).T n = some t → blk t.2.2 = some b → W4.heap[b]? = W3.heap[b]? := fun n t b ht hb => by
     refine gr4.block b (hsgd.tb n t.1 t.2.1 t.2.2 b ht hb).2 fun e => ?_
     simp only [Option.some.injEq] at e
     subst e
     have := hncd n t _ _ (hsgd.nx ▸ hsgd.lt n t ht) ht hb hl3 rfl
     omega
    have hsg4 : SimG (E3.drop st.nx) W4 (J (k + 1)) st.nx := hsgd.heap hcell4 unt3 gr4.size
    have hnc4 : NCB st.nx w.heap.size (E3.drop st.nx) W4 := fun n t b o hm ht hb ho hf => hncd n t b o hm ht hb ((unt3 n t b ht hb).symm.trans ho) hf
    rw [hW4] at h1 h2 h3
    refine ⟨_, _, h1, rfl, E3.drop st.nx, ?_, ?_⟩
    ·have t1 : EvR E1 W E2 Wb := q1.r.trans (EvR.same hcellb)
     have t2 : EvR E1 W (E3.drop st.nx) W3 := (t1.trans r1.r).drop (by omega)
     exact t2.trans (EvR.same hcell4)
    ·rw [hIJ]
     exact ⟨ev4, hsg4, hnc4, h2, h3⟩
   | _ => exact r3.elim
  | _ => exact q3.elim
 have hcall := it I (by rw [hI]) (by rw [hI]) ok (fun k => by rw [hI]; exact hJF k) (by rw [hI]; exact hnF) E0 W1 vs (by rw [hIJ]; exact ⟨hev0, hsg0, hn0, recs.1, recs.2⟩) (hvs.evr2 hev0)
 rw [show I.l = w.heap.size + 1 by rw [hI]] at hcall
 refine hcall.mono ?_
 -- behind the iterator
 rintro e W2 ⟨⟨v, rfl⟩, E1, hj⟩
 rw [hIJ] at hj
 obtain ⟨hevj, hsj, hnj, hl, hk⟩ := hj
 have hI2 : OwnW E w (J N) st.nx W2 := ⟨E1, hevj, hsj, hnj⟩
 obtain ⟨E1, hev, hs1, hn⟩ := hI2.put hs.g (by omega) hl rfl (.loop { rc .ready none with state := .exhausted })
 have hK : (W2.putObj (w.heap.size + 1) (.loop { rc .ready none with state := .exhausted })).heap[w.heap.size]? = some (.deferred (some [])) := (World.putObj_heap_other (by omega)).trans hk
 exact ⟨none, _, by have := run_endLoop (P := P) hl (by rw [hrc]; simp); rw [hrc] at this ⊢; exact this, _, E1, hev, simAt hev hs1 (marked hev (fun n t ht => hs1.nx ▸ hs1.lt n t ht) hn (Nat.le_refl _) hK), done⟩
end Go.AB
namespace Go.AB
open Go Go.RowKit
open Go.AB.Enc (cells)
open Go.PB (av ai PlaceD az bf ba bl am af co bj dc dg)
/-- how many readers are ahead of a side -/
def sdN (p : af) : Nat → Nat
 | 0 => 0
 | 1 => p.firsts.length
 | _ => p.firsts.length + p.seconds.length
theorem yx {p : af} : ∀ {k : Nat}, k < 2 → sdN p (k + 1) = sdN p k + (d8 p (decide (k = 1))).length
 | 0, _ => (Nat.zero_add _).symm
 | 1, _ => rfl
 | k + 2, h => by omega
theorem ul1 {p : af} : ∀ {k i : Nat}, k < 2 → i < (d8 p (decide (k = 1))).length → bv p (sdN p k + i) = mo p (decide (k = 1)) i ∧ sdN p k + i < cc p
 | 0, i, _, h => by
  have h : i < p.firsts.length := h
  rw [show sdN p 0 + i = i from Nat.zero_add i]
  unfold bv cc
  rw [decide_eq_true h]
  exact ⟨rfl, by omega⟩
 | 1, i, _, h => by
  have h : i < p.seconds.length := h
  rw [show sdN p 1 + i = p.firsts.length + i from rfl]
  unfold bv cc
  rw [decide_eq_false (by omega), Nat.add_sub_cancel_left]
  exact ⟨rfl, by omega⟩
 | k + 2, _, h, _ => by omega
end Go.AB
namespace Go.Proofs.YtbbdginipiljdaaDoor
set_option maxRecDepth 10000
open Go Go.RowKit Go.AB
open Go.AB.Enc (cells)
open Go.PB (av ai PlaceD az bf ba bl am af co bj dc dg)
set_option maxHeartbeats 1000000 in
theorem ul0 (nF : Nat) (p : af) (h : ez p) : yb nF fm Tryd.prog 116 [.elem [.elem (ku p)]] (cc p) (fun k => [.v (.int .i64 (bv p k))]) := by
 refine uec Tryd.func116 rfl rfl fun I hN hcl ok hG hn => ?_
 simp only [Tryd.ntmps116, List.length_cons, List.length_nil, Nat.reduceAdd, Nat.reduceSub]
 have hn1 := h.nf
 have hn2 := h.ns
 refine lf 2 ?_
 refine zQ ?_
 refine qa ?_
 dsimp only [FC.st]
 refine bu fun hlt => ?_
 dsimp only at hlt
 refine c4 ?_
 try dsimp only [St.put]
 refine bg rfl (nm (n := 6) (m := nF) rfl rfl (hG _) rfl) ?_
 refine aa rfl (bx rfl (by constructor)) ?_
 refine ct ?_
 dsimp only [St.put]
 show j9 _ _ _ _ _ _ _
 refine qb ok rfl ⟨rfl, rfl, zK, zN, zS, zK⟩ ?_
 refine sf ?_
 refine lf 10 ?_
 refine zQ ?_
 refine uaj (X := Nat) (fun k => k ≤ 2) (fun k => 2 - k) (fun k => [(2, .any), (3, .any), (4, .any), (5, .any), (6, .any), (7, .any), (9, .v (.int .i64 (k : Int)))]) (fun k => sdN p k) 0 rfl ?_ ?_ ?_ ?_ ?_
 ·exact Nat.zero_le _
 ·exact zF
 ·rfl
 ·rintro k hI
  exact zL
 ·rintro k hI
  dsimp only at hI ⊢
  refine lf 10 ?_
  refine zQ ?_
  refine qa ?_
  dsimp only [FC.st]
  refine bu fun hlt => ?_
  dsimp only at hlt
  refine c4 ?_
  refine aa rfl (cv rfl rfl rfl) ?_
  refine ct ?_
  dsimp only [St.put]
  show j9 _ _ _ _ _ _ _
  refine qb ok rfl ⟨rfl, rfl, zK, zN, zS, zK⟩ ?_
  refine p9 fun K1 hK1 => ?_
  refine uz rfl (fun hc => ?_) (fun hc => ?_)
  ·replace hc := of_decide_eq_true hc
   have hk : k < 2 := by omega
   have hsl : (d8 p (decide (k = 1))).length ≤ 3 := by
    cases decide (k = 1)
    ·exact hn1
    ·exact hn2
   refine uy ?_
   refine hK1 _ _ ?_
   refine p9 fun K2 hK2 => ?_
   refine sf ?_
   refine lf 10 ?_
   refine zQ ?_
   refine qa ?_
   dsimp only [FC.st]
   refine bu fun hlt => ?_
   dsimp only at hlt
   refine c4 ?_
   refine aa rfl (w9 (k := k) (m := 2) (sz := 3) rfl rfl rfl rfl hk (v8 hk)) ?_
   try dsimp only [St.put]
   refine ae rfl (dd rfl ?_)
   try dsimp only [St.put]
   first | refine ae rfl (cw rfl rfl rfl zG rfl rfl (by rfl) ?_) | refine ae rfl (i7 rfl rfl rfl zG (by constructor) rfl zO ?_)
   refine ct ?_
   dsimp only [St.put]
   show j9 _ _ _ _ _ _ _
   refine xm ?_
   refine fj (i := 4) rfl zG zC ?_
   dsimp only
   refine g8 [(0, none), (1, none), (2, none), (3, none), (4, none), (5, none), (8, none), (6, none), (7, none)] (fun i => [6].contains i) (fun i => [6].contains i) (fun i => [0, 3, 4, 7, 8].contains i) [] (by kernel_rfl) (by kernel_rfl) ?_
   first | refine ah rfl rfl rfl rfl (ce rfl rfl rfl) ?_ | refine ah rfl rfl rfl rfl (dn rfl rfl) ?_
   try dsimp only [St.put]
   first | refine aw rfl rfl rfl rfl (bq rfl rfl) ?_ | refine aw rfl rfl rfl rfl (dl rfl rfl (Enc.len _)) ?_ | refine aw rfl rfl rfl rfl (dl rfl rfl rfl) ?_ | refine aw rfl rfl rfl rfl (e8 rfl rfl zG (by simp) (by first | rfl | assumption)) ?_ | refine aw rfl rfl rfl rfl (io rfl rfl zG (by simp) (by rfl)) ?_ | refine aw rfl rfl rfl rfl (qo rfl rfl zG (by simp) (by simp)) ?_ | refine aw rfl rfl rfl rfl (ka rfl rfl zG (by simp) (o8 (by assumption) rfl)) ?_ | refine aw rfl rfl rfl rfl (ka rfl rfl zG (by simp) (by assumption)) ?_ | refine aw rfl rfl rfl rfl (rp rfl rfl zG (by simp) rfl (by assumption) rfl (by decide)) ?_ | refine aw rfl rfl rfl rfl (nm rfl rfl zG (by rfl)) ?_
   try dsimp only [St.put]
   first | refine aw rfl rfl rfl rfl (bq rfl rfl) ?_ | refine aw rfl rfl rfl rfl (dl rfl rfl (Enc.len _)) ?_ | refine aw rfl rfl rfl rfl (dl rfl rfl rfl) ?_ | refine aw rfl rfl rfl rfl (e8 rfl rfl zG (by simp) (by first | rfl | assumption)) ?_ | refine aw rfl rfl rfl rfl (io rfl rfl zG (by simp) (by rfl)) ?_ | refine aw rfl rfl rfl rfl (qo rfl rfl zG (by simp) (by simp)) ?_ | refine aw rfl rfl rfl rfl (ka rfl rfl zG (by simp) (o8 (by assumption) rfl)) ?_ | refine aw rfl rfl rfl rfl (ka rfl rfl zG (by simp) (by assumption)) ?_ | refine aw rfl rfl rfl rfl (rp rfl rfl zG (by simp) rfl (by assumption) rfl (by decide)) ?_ | refine aw rfl rfl rfl rfl (nm rfl rfl zG (by rfl)) ?_
   first | refine ah rfl rfl rfl rfl (lz rfl rfl) ?_ | refine ah rfl rfl rfl rfl (kx rfl rfl) ?_ | refine ah rfl rfl rfl rfl (uk7 rfl rfl) ?_
   first | refine ah rfl rfl rfl rfl (ce rfl rfl rfl) ?_ | refine ah rfl rfl rfl rfl (dn rfl rfl) ?_
   try dsimp only [St.put]
   refine aw rfl rfl rfl rfl (c := val p) (ju (cs := ku p) rfl rfl (show 4 ≤ 7 by decide)) ?_
   refine ah rfl rfl rfl rfl (bx rfl (by constructor)) ?_
   refine jf ?_
   try dsimp only [St.put]
   refine g9 rfl rfl rfl rfl (ay rfl rfl rfl (pn (decide (k = 1)) p) ?_)
   first | refine ed rfl rfl rfl rfl (bp rfl rfl (List.length_map _)) ?_ | refine ed rfl rfl rfl rfl (bp rfl rfl rfl) ?_ | refine ed rfl rfl rfl rfl (ug rfl rfl) ?_ | refine ed rfl rfl rfl rfl (ula rfl rfl) ?_ | refine ed rfl rfl rfl rfl (udm rfl rfl) ?_ | refine ed rfl rfl rfl rfl (uk9 rfl rfl (by omega)) ?_
   refine je ?_
   dsimp only [St.put]
   show j9 _ _ _ _ _ _ _
   refine qb ok rfl ⟨rfl, rfl, zK, zN, zS, zK⟩ ?_
   refine sf ?_
   refine lf 21 ?_
   refine zQ ?_
   refine uaj (X := Nat) (fun i => i ≤ (d8 p (decide (k = 1))).length) (fun i => (d8 p (decide (k = 1))).length - i) (fun i => [(5, .any), (6, .any), (7, .any), (20, .v (.int .i64 (i : Int)))]) (fun i => sdN p k + i) 0 rfl ?_ ?_ ?_ ?_ ?_
   ·exact Nat.zero_le _
   ·exact zF
   ·rfl
   ·rintro i hI
    exact zL
   ·rintro i hJ
    dsimp only at hJ ⊢
    refine lf 21 ?_
    refine zQ ?_
    refine qa ?_
    dsimp only [FC.st]
    refine bu fun hlt => ?_
    dsimp only at hlt
    refine c4 ?_
    refine aa rfl (cv rfl rfl rfl) ?_
    refine ct ?_
    dsimp only [St.put]
    show j9 _ _ _ _ _ _ _
    refine qb ok rfl ⟨rfl, rfl, zK, zN, zS, zK⟩ ?_
    refine p9 fun K3 hK3 => ?_
    refine uz rfl (fun hc => ?_) (fun hc => ?_)
    ·replace hc := of_decide_eq_true hc
     have hi : i < (d8 p (decide (k = 1))).length := by omega
     obtain ⟨hL, hN2⟩ := ul1 hk hi
     refine uy ?_
     refine hK3 _ _ ?_
     refine p9 fun K4 hK4 => ?_
     refine sf ?_
     refine lf 21 ?_
     refine zQ ?_
     refine qa ?_
     dsimp only [FC.st]
     refine bu fun hlt => ?_
     dsimp only at hlt
     refine c4 ?_
     refine aa rfl (bx rfl (by constructor)) ?_
     refine aa rfl (cz rfl (by constructor)) ?_
     refine ct ?_
     dsimp only [St.put]
     show j9 _ _ _ _ _ _ _
     refine xm ?_
     refine c4 ?_
     try dsimp only [St.put]
     first | refine bg rfl (bq rfl rfl) ?_ | refine bg rfl (dl rfl rfl (Enc.len _)) ?_ | refine bg rfl (dl rfl rfl rfl) ?_ | refine bg rfl (e8 rfl rfl zG trivial (by first | rfl | assumption)) ?_ | refine bg rfl (io rfl rfl zG trivial (by rfl)) ?_ | refine bg rfl (qo rfl rfl zG trivial (by simp)) ?_ | refine bg rfl (ka rfl rfl zG trivial (o8 (by assumption) rfl)) ?_ | refine bg rfl (ka rfl rfl zG trivial (by assumption)) ?_ | refine bg rfl (rp rfl rfl zG trivial rfl (by assumption) rfl (by decide)) ?_ | refine bg rfl (nm rfl rfl zG (by rfl)) ?_
     try dsimp only [St.put]
     first | refine bg rfl (bq rfl rfl) ?_ | refine bg rfl (dl rfl rfl (Enc.len _)) ?_ | refine bg rfl (dl rfl rfl rfl) ?_ | refine bg rfl (e8 rfl rfl zG trivial (by first | rfl | assumption)) ?_ | refine bg rfl (io rfl rfl zG trivial (by rfl)) ?_ | refine bg rfl (qo rfl rfl zG trivial (by simp)) ?_ | refine bg rfl (ka rfl rfl zG trivial (o8 (by assumption) rfl)) ?_ | refine bg rfl (ka rfl rfl zG trivial (by assumption)) ?_ | refine bg rfl (rp rfl rfl zG trivial rfl (by assumption) rfl (by decide)) ?_ | refine bg rfl (nm rfl rfl zG (by rfl)) ?_
     refine aa rfl (bx rfl (by constructor)) ?_
     try dsimp only [St.put]
     refine ae rfl (ay rfl rfl rfl (ucs p (decide (k = 1)) i h hi) ?_)
     refine aa rfl (bx rfl (by constructor)) ?_
     refine aa rfl (jh rfl rfl rfl) ?_
     refine aa rfl (jh rfl rfl rfl) ?_
     refine aa rfl (cz rfl (by constructor)) ?_
     refine aa rfl (cz rfl (by constructor)) ?_
     refine ct ?_
     dsimp only [St.put]
     show j9 _ _ _ _ _ _ _
     refine qb ok rfl ⟨rfl, rfl, zK, zN, zS, zK⟩ ?_
     refine p9 fun K5 hK5 => ?_
     refine uel ?_
     refine qy rfl (bx rfl (by constructor)) ?_
     refine qy rfl (bx rfl (by constructor)) ?_
     try dsimp only [St.put]
     refine ueo ok (by rw [hN]; exact hN2) rfl rfl rfl rfl (by rw [hcl]; show _ = [C.v (.int .i64 (bv p (sdN p k + i)))]; rw [hL]; rfl) ?_
     refine qy rfl (eb rfl rfl) ?_
     refine uep ?_
     dsimp only [St.put]
     refine hK5 _ _ ?_
     refine uz rfl (fun h => by cases h) (fun _ => ?_)
     refine uy ?_
     refine hK4 _ _ ?_
     refine lf 21 ?_
     refine zQ ?_
     refine uai ok rfl ?_
     dsimp only [FC.st]
     refine bu fun hlt => ?_
     dsimp only at hlt
     refine c4 ?_
     first | refine aa rfl (cg rfl rfl rfl (by omega)) ?_ | refine aa rfl (ui rfl rfl rfl) ?_
     refine aa rfl (bx rfl (by constructor)) ?_
     refine ct ?_
     dsimp only [St.put]
     refine ⟨⟨rfl, rfl, zK, zN, zS, zK⟩, ?_⟩
     exact ⟨i + 1, by omega, by omega, rfl, ⟨⟨rfl, rfl⟩, zF, zB, zN, zX⟩⟩
    ·replace hc := of_decide_eq_false hc
     obtain rfl : i = (d8 p (decide (k = 1))).length := by omega
     refine uak ?_
     refine hK2 _ _ ?_
     refine lf 10 ?_
     refine zQ ?_
     refine uai ok rfl ?_
     dsimp only [FC.st]
     refine bu fun hlt => ?_
     dsimp only at hlt
     refine c4 ?_
     first | refine aa rfl (cg rfl rfl rfl (by omega)) ?_ | refine aa rfl (ui rfl rfl rfl) ?_
     refine aa rfl (bx rfl (by constructor)) ?_
     refine ct ?_
     dsimp only [St.put]
     refine ⟨⟨rfl, rfl, zK, zN, zS, zK⟩, ?_⟩
     exact ⟨k + 1, by omega, by omega, (yx hk).symm, ⟨⟨rfl, rfl⟩, zF, zB, zN, zX⟩⟩
  ·replace hc := of_decide_eq_false hc
   obtain rfl : k = 2 := by omega
   refine uak ?_
   exact ⟨.inl rfl, rfl⟩
end Go.Proofs.YtbbdginipiljdaaDoor
namespace Go.AB
open Go Go.RowKit
open Go.AB.Enc (cells)
open Go.PB (av ai PlaceD az bf ba bl am af co bj dc dg)
theorem qj {α : Type} (d v : α) : atE 0 d v = v := rfl
theorem mb {α : Type} {e : Int} (h : e ≠ 0) (d v : α) : atE e d v = d := by unfold atE; rw [decide_eq_false h]; rfl
theorem ud6 {p : af} {e : Int} (h : e ≠ 0) : er p e = e := by unfold er; rw [decide_eq_false h]; rfl
theorem p7 (p : af) : er p 0 = bif ga p then 0 else 8 := rfl
end Go.AB
namespace Go.Proofs.YtbbdginipiljdaaDoor
set_option maxRecDepth 10000
open Go.RowKit Go.AB
open Go.AB.Enc (cells)
open Go.PB (av ai PlaceD az bf ba bl am af co bj dc dg)
end Go.Proofs.YtbbdginipiljdaaDoor
namespace Go.AB
open Go Go.RowKit
open Go.AB.Enc (cells)
open Go.PB (av ai PlaceD az bf ba bl am af co bj dc dg)
instance : FlatV bj := ⟨fun x => [.int .i64 x.lo, .int .i64 x.hi], fun _ => rfl⟩
def kf (x : am) : Bool := decide (200 < x.found.length) || decide (200 < x.well.length)
def l7 (p : af) : Bool := ld p.text || decide (6 < p.firsts.length) || decide (6 < p.seconds.length) || decide (12 < p.pages.length) || p.pages.any kf
theorem umj {p : af} {n : Int} {j : Nat} {x : am} (h0 : eh p n = 0) (hpo : oy p n = x) (hn : n = (j : Int)) (hk : (d9 p.text x).length ≠ 0) : n5 p n = 0 ∧ o6 p n = uah x (d9 p.text x).length := by
 have hE : n5 p n = 0 := by unfold n5; rw [h0, hpo, decide_eq_false hk]; rfl
 exact ⟨hE, by unfold o6; rw [hE, hpo]; rfl⟩
end Go.AB
namespace Go.Proofs.YtbbdginipiljdaaDoor
set_option maxRecDepth 10000
open Go.RowKit Go.AB
open Go.AB.Enc (cells)
open Go.PB (av ai PlaceD az bf ba bl am af co bj dc dg)
theorem uhp : Tryd.prog.underlying 47 = some (.struct (Tryd.prog.fieldsOf 47)) := by kernel_rfl
theorem uiu : Tryd.prog.stoodInHeld 47 = false := by kernel_rfl
instance : EqT Tryd.prog 47 bj where
 guard op w x y xs ys := run_eqGuard_agg w op _ x y xs ys (by kernel_rfl)
 same w x y := by
  obtain ⟨a, b⟩ := x
  obtain ⟨a', b'⟩ := y
  simp only [FlatV.vals]
  rw [run_equalIn_agg _ _ _ _ _ uhp uiu]
  by_cases h1 : a = a' <;> by_cases h2 : b = b' <;> simp [go_sem, h1, h2]
theorem ujt (p : af) : Pure Tryd.prog 10 [val p] (.v (.bool (l7 p))) := by
 refine c5 Tryd.func10 rfl (fun m => .v) fun G nx => ?_
 simp only [Tryd.ntmps10, List.length_cons, List.length_nil, Nat.reduceAdd, Nat.reduceSub]
 refine bu fun hlt => ?_
 dsimp only at hlt
 refine yS fun _ K1 => ?_
 refine yR ?_
 try dsimp only [St.put]
 refine yB rfl rfl rfl ?_
 refine yA rfl rfl ?_
 refine yN ?_
 dsimp only [St.put]
 refine K1 _ ?_
 refine yS fun _ K2 => ?_
 refine cp 4 ?_
 refine zQ ?_
 refine kj (X := Bool) (fun d => (ld p.text || decide (6 < p.firsts.length) || decide (6 < p.seconds.length) || decide (12 < p.pages.length)) = d) (fun d => [(24, .v (.bool d))]) (fun d G' => G') rfl ?_ (fun _ _ _ _ h => .inl h) ?_ ?_
 ·rintro d hI
  exact zL
 ·refine yR ?_
  refine yF rfl rfl rfl rfl ?_
  try dsimp only [St.put]
  refine bg rfl (c := gu p.text) (ju (cs := cells p) rfl rfl (show 1 ≤ 4 by decide)) ?_
  try dsimp only [St.put]
  refine ae rfl (ay rfl rfl rfl (upb p.text) ?_)
  refine yM rfl rfl ?_
  refine eg (fun hs => ?_) (fun hs => ?_)
  ·have h1 : ld p.text = true := hs
   refine yK rfl ?_
   refine yK rfl ?_
   refine yK rfl ?_
   refine yK rfl ?_
   refine aa rfl (bz rfl rfl (by constructor)) ?_
   refine yM rfl rfl ?_
   refine yK rfl ?_
   refine yK rfl ?_
   refine yK rfl ?_
   refine yK rfl ?_
   refine aa rfl (bz rfl rfl (by constructor)) ?_
   refine yM rfl rfl ?_
   refine yK rfl ?_
   refine yK rfl ?_
   refine yK rfl ?_
   refine yK rfl ?_
   refine aa rfl (bz rfl rfl (by constructor)) ?_
   refine yN ?_
   dsimp only [St.put]
   refine ⟨_, ?_, ⟨⟨rfl, rfl⟩, zF, zB, zN, zX⟩⟩
   first
   | (simp [h1]; done)
   | (simp [h1, h2]; done)
   | (simp [h1, h2, h3]; done)
   | (simp [h1, h2, h3]; omega)
  have h1 : ld p.text = false := hs
  refine yF rfl rfl rfl rfl ?_
  refine yL rfl rfl rfl ?_
  refine aa rfl (bp rfl rfl (List.length_map _)) ?_
  refine aa rfl (iq rfl rfl rfl) ?_
  refine aa rfl (ck rfl rfl (by constructor)) ?_
  refine yM rfl rfl ?_
  refine eg (fun hs => ?_) (fun hs => ?_)
  ·have h2 : 6 < p.firsts.length := by have := of_decide_eq_true hs; omega
   refine yK rfl ?_
   refine yK rfl ?_
   refine yK rfl ?_
   refine yK rfl ?_
   refine aa rfl (bz rfl rfl (by constructor)) ?_
   refine yM rfl rfl ?_
   refine yK rfl ?_
   refine yK rfl ?_
   refine yK rfl ?_
   refine yK rfl ?_
   refine aa rfl (bz rfl rfl (by constructor)) ?_
   refine yN ?_
   dsimp only [St.put]
   refine ⟨_, ?_, ⟨⟨rfl, rfl⟩, zF, zB, zN, zX⟩⟩
   first
   | (simp [h1]; done)
   | (simp [h1, h2]; done)
   | (simp [h1, h2, h3]; done)
   | (simp [h1, h2, h3]; omega)
  have h2 : ¬ 6 < p.firsts.length := by have := of_decide_eq_false hs; omega
  refine yF rfl rfl rfl rfl ?_
  refine yL rfl rfl rfl ?_
  refine aa rfl (bp rfl rfl (List.length_map _)) ?_
  refine aa rfl (iq rfl rfl rfl) ?_
  refine aa rfl (ck rfl rfl (by constructor)) ?_
  refine yM rfl rfl ?_
  refine eg (fun hs => ?_) (fun hs => ?_)
  ·have h3 : 6 < p.seconds.length := by have := of_decide_eq_true hs; omega
   refine yK rfl ?_
   refine yK rfl ?_
   refine yK rfl ?_
   refine yK rfl ?_
   refine aa rfl (bz rfl rfl (by constructor)) ?_
   refine yN ?_
   dsimp only [St.put]
   refine ⟨_, ?_, ⟨⟨rfl, rfl⟩, zF, zB, zN, zX⟩⟩
   first
   | (simp [h1]; done)
   | (simp [h1, h2]; done)
   | (simp [h1, h2, h3]; done)
   | (simp [h1, h2, h3]; omega)
  have h3 : ¬ 6 < p.seconds.length := by have := of_decide_eq_false hs; omega
  refine yF rfl rfl rfl rfl ?_
  refine yL rfl rfl rfl ?_
  refine aa rfl (bp rfl rfl (List.length_map _)) ?_
  refine aa rfl (iq rfl rfl rfl) ?_
  refine aa rfl (ck rfl rfl (by constructor)) ?_
  refine yN ?_
  dsimp only [St.put]
  refine ⟨_, ?_, ⟨⟨rfl, rfl⟩, zF, zB, zN, zX⟩⟩
  first
  | (simp [h1]; done)
  | (simp [h1, h2]; done)
  | (simp [h1, h2, h3]; done)
  | (simp [h1, h2, h3]; omega)
 rintro d hst
 dsimp only at hst ⊢
 refine ar rfl (fun hc => ?_) (fun hc => ?_)
 ·rw [hc] at hst
  refine yS fun _ K4 => ?_
  refine yR ?_
  refine yA rfl rfl ?_
  refine yN ?_
  dsimp only [St.put]
  refine K4 _ ?_
  refine aq ?_
  refine bh rfl (by constructor) zN zS ?_
  exact vb (by unfold l7; rw [hst]; rfl)
 rw [hc] at hst
 have hpl : ¬ 12 < p.pages.length := fun h => by rw [decide_eq_true h, Bool.or_true] at hst; cases hst
 refine ax ?_
 refine K2 _ ?_
 refine yS fun _ K5 => ?_
 refine yS fun _ K6 => ?_
 refine yR ?_
 refine yA rfl rfl ?_
 refine yN ?_
 dsimp only [St.put]
 refine K6 _ ?_
 refine bk ?_
 refine cp 4 ?_
 refine zQ ?_
 refine dq (G) zX ?_
 dsimp only
 refine dp (X := Nat) (fun i => i ≤ p.pages.length ∧ ∀ x ∈ p.pages.take i, kf x = false) (fun i => p.pages.length - i) (fun i => [(3, .v (.int .i64 (i : Int)))]) (fun i G' => G') 0 rfl ?_ ?_ (fun _ _ h => h) ?_ ?_ ?_
 ·exact ⟨Nat.zero_le _, by simp⟩
 ·exact zF
 ·rintro i hI
  exact zL
 ·exact fun _ _ _ _ h => .inl h
 rintro i hI
 dsimp only at hI ⊢
 refine yS fun _ K7 => ?_
 refine yS fun _ K8 => ?_
 refine yR ?_
 refine yM rfl rfl ?_
 refine yF rfl rfl rfl rfl ?_
 refine yL rfl rfl rfl ?_
 refine aa rfl (bp rfl rfl (List.length_map _)) ?_
 refine aa rfl (cv rfl rfl rfl) ?_
 refine yN ?_
 dsimp only [St.put]
 refine K8 _ ?_
 refine ar rfl (fun hc => ?_) (fun hc => ?_)
 ·replace hc := of_decide_eq_true hc
  obtain ⟨x, hx⟩ : ∃ x, p.pages[i]? = some x := dr (by omega)
  refine ax ?_
  refine K7 _ ?_
  refine yS fun _ K9 => ?_
  refine bk ?_
  refine yS fun _ K10 => ?_
  refine yR ?_
  refine yF rfl rfl rfl rfl ?_
  refine yL rfl rfl rfl ?_
  refine yM rfl rfl ?_
  refine aa rfl (cb rfl rfl rfl rfl (ca (by assumption)) (Enc.len _)) ?_
  refine yF rfl rfl rfl rfl ?_
  refine yL rfl rfl rfl ?_
  refine aa rfl (bp rfl rfl (List.length_map _)) ?_
  refine aa rfl (iq rfl rfl rfl) ?_
  refine yM rfl rfl ?_
  refine eg (fun hs => ?_) (fun hs => ?_)
  ·have g1 : 200 < x.found.length := by have := of_decide_eq_true hs; omega
   refine yK rfl ?_
   refine yK rfl ?_
   refine yK rfl ?_
   refine yK rfl ?_
   refine yK rfl ?_
   refine yK rfl ?_
   refine yK rfl ?_
   refine yK rfl ?_
   refine aa rfl (bz rfl rfl (by constructor)) ?_
   refine yN ?_
   dsimp only [St.put]
   refine K10 _ ?_
   refine ar rfl (fun _ => ?_) (fun h => by cases h)
   have hgx : kf x = true := by
    first
    | (simp [kf, g1]; done)
    | (have g2 : 200 < x.well.length := by (have := of_decide_eq_true hc; omega)
       simp [kf, g2])
   refine yS fun _ K11 => ?_
   refine yR ?_
   refine yA rfl rfl ?_
   refine yN ?_
   dsimp only [St.put]
   refine K11 _ ?_
   refine aq ?_
   refine bh rfl (by constructor) zN zS ?_
   exact vb (by
    have : p.pages.any kf = true := List.any_eq_true.2 ⟨x, gd hx, hgx⟩
    unfold l7; rw [this, Bool.or_true])
  have g1 : ¬ 200 < x.found.length := by have := of_decide_eq_false hs; omega
  refine yF rfl rfl rfl rfl ?_
  refine yL rfl rfl rfl ?_
  refine yM rfl rfl ?_
  refine aa rfl (cb rfl rfl rfl rfl (ca (by assumption)) (Enc.len _)) ?_
  refine yF rfl rfl rfl rfl ?_
  refine yL rfl rfl rfl ?_
  refine aa rfl (bp rfl rfl (List.length_map _)) ?_
  refine aa rfl (iq rfl rfl rfl) ?_
  refine aa rfl (ck rfl rfl (by constructor)) ?_
  refine yN ?_
  dsimp only [St.put]
  refine K10 _ ?_
  refine ar rfl (fun hc => ?_) (fun hc => ?_)
  ·have hgx : kf x = true := by
    first
    | (simp [kf, g1]; done)
    | (have g2 : 200 < x.well.length := by (have := of_decide_eq_true hc; omega)
       simp [kf, g2])
   refine yS fun _ K12 => ?_
   refine yR ?_
   refine yA rfl rfl ?_
   refine yN ?_
   dsimp only [St.put]
   refine K12 _ ?_
   refine aq ?_
   refine bh rfl (by constructor) zN zS ?_
   exact vb (by
    have : p.pages.any kf = true := List.any_eq_true.2 ⟨x, gd hx, hgx⟩
    unfold l7; rw [this, Bool.or_true])
  have hgx : kf x = false := by
   have g2 : ¬ 200 < x.well.length := by (have := of_decide_eq_false hc; omega)
   simp [kf, g1, g2]
  refine ax ?_
  refine K9 _ ?_
  refine yR ?_
  refine yM rfl rfl ?_
  refine aa rfl (cg rfl rfl rfl (by omega)) ?_
  refine yA rfl rfl ?_
  refine yN ?_
  dsimp only [St.put]
  exact ⟨i + 1, by omega, ⟨by omega, zv (p := fun x : am => kf x = false) hx hgx hI.2⟩, ⟨⟨rfl, rfl⟩, zF, zB, zN, zX⟩⟩
 replace hc := of_decide_eq_false hc
 have hall := hI.2
 rw [gw (show p.pages.length ≤ i by omega)] at hall
 refine dj ?_
 refine K5 _ ?_
 refine yS fun _ K13 => ?_
 refine yR ?_
 refine yA rfl rfl ?_
 refine yN ?_
 dsimp only [St.put]
 refine K13 _ ?_
 refine aq ?_
 refine bh rfl (by constructor) zN zS ?_
 exact vb (by
  have : p.pages.any kf = false := List.any_eq_false.2 fun x hx => by rw [hall x hx]; simp
  unfold l7; rw [hst, this]; rfl)
end Go.Proofs.YtbbdginipiljdaaDoor
namespace Go.AB
open Go Go.RowKit
open Go.AB.Enc (cells)
open Go.PB (av ai PlaceD az bf ba bl am af co bj dc dg)
def pgC (p : af) (n : Int) : C := bif decide (eh p n = 0) then jx p else .v (.pointer none)
theorem ujx (m : Nat) (p : af) (n : Int) : C.low m (pgC p n) := by
 unfold pgC
 cases decide (eh p n = 0)
 ·exact .v
 exact udb m p
theorem ucq {p : af} {n : Int} (h : eh p n ≠ 0) : pgC p n = .v (.pointer none) := by unfold pgC; rw [decide_eq_false h]; rfl
theorem tz {p : af} {n : Int} (h : eh p n = 0) : pgC p n = .elem [lst p.text, lst p.firsts, lst p.seconds, lst p.pages, lst (p.pages.map fun x => (fl p.text x : Int)), lst (p.pages.map (ey p.text)), lst (p.pages.map (d9 p.text))] := by
 unfold pgC
 rw [decide_eq_true h, cond_true, wz (rf h).1]
theorem rz {α β : Type} {l : List α} {k : Nat} {x : α} (f : α → β) (h : l[k]? = some x) : (l.map f)[k]? = some (f x) := by rw [List.getElem?_map, h]; rfl
end Go.AB
namespace Go.Proofs.YtbbdginipiljdaaDoor
set_option maxRecDepth 10000
open Go Go.RowKit Go.AB
open Go.AB.Enc (cells)
open Go.PB (av ai PlaceD az bf ba bl am af co bj dc dg)
theorem uit (m : Nat) (b : Bool) : ∀ c ∈ ot b, C.low m c := fun c hc => by
 simp only [List.mem_cons, List.not_mem_nil, or_false] at hc
 rcases hc with rfl | rfl | rfl <;> exact .fn (by simp)
theorem rt (n : Nat) (p : af) (m : Int) : fu n fm Tryd.prog 41 [val p, .v (.int .i64 m)] (.tup [pgC p m, .v (.int .i64 (eh p m))]) := fun G nx hF hnx => by
 refine iz (G) (nx) Tryd.func41 rfl (.tup (ci (ujx _ _ _) (ci .v dh))) zN (fun hlt => zH) ?_
 simp only [Tryd.ntmps41, List.length_cons, List.length_nil, Nat.reduceAdd, Nat.reduceSub]
 refine bu fun hlt => ?_
 dsimp only at hlt
 refine yS fun _ K1 => ?_
 refine yR ?_
 try dsimp only [St.put]
 refine yB rfl rfl rfl ?_
 refine yA rfl rfl ?_
 refine yA rfl rfl ?_
 refine yN ?_
 dsimp only [St.put]
 refine K1 _ ?_
 refine yS fun _ K2 => ?_
 refine yR ?_
 refine yE rfl rfl rfl ?_
 try dsimp only [St.put]
 refine ae rfl (ec rfl rfl rfl (oz n p) zG (by dsimp only [St.put]; omega) ?_)
 refine yM rfl rfl ?_
 refine yX rfl rfl rfl rfl ?_
 refine yX rfl rfl rfl rfl ?_
 refine yA rfl rfl ?_
 refine yA rfl rfl ?_
 refine yN ?_
 dsimp only [St.put]
 refine K2 _ ?_
 refine yS fun _ K3 => ?_
 refine yS fun _ K4 => ?_
 refine yR ?_
 refine yM rfl rfl ?_
 refine aa rfl (ff rfl rfl rfl) ?_
 refine yN ?_
 dsimp only [St.put]
 refine K4 _ ?_
 refine ar rfl (fun hc => ?_) (fun hc => ?_)
 ·have h0 : cm p ≠ 0 := j8 hc
  have hE : eh p m = cm p := by simp [eh, h0]
  refine yS fun _ K5 => ?_
  refine yR ?_
  refine yM rfl rfl ?_
  refine yA rfl rfl ?_
  refine yA rfl rfl ?_
  refine yN ?_
  dsimp only [St.put]
  refine K5 _ ?_
  refine aq ?_
  refine i6 rfl (by constructor) (by constructor) zN zS ?_ ?_
  ·rw [ucq (by rw [hE]; exact h0)]
  rw [hE]
 have h0 : cm p = 0 := ip hc
 have hnp := (lg h0).1.np
 refine ax ?_
 refine K3 _ ?_
 refine yS fun _ K6 => ?_
 refine yS fun _ K7 => ?_
 refine yR ?_
 refine yF rfl rfl rfl rfl ?_
 refine yL rfl rfl rfl ?_
 refine aa rfl (bp rfl rfl (List.length_map _)) ?_
 refine aa rfl (i0 rfl rfl rfl (by omega)) ?_
 refine yM rfl rfl ?_
 try dsimp only [St.put]
 refine ae rfl (du rfl rfl rfl (by decide) (by decide) zR (by decide) ?_)
 try dsimp only [St.put]
 refine ae rfl (ay rfl rfl rfl (nw _ _ [_]) ?_)
 refine aa rfl (eb rfl rfl) ?_
 refine yN ?_
 dsimp only [St.put]
 refine K7 _ ?_
 refine ar rfl (fun hc => ?_) (fun hc => ?_)
 ·have h1 : inB m 0 ((p.pages.length : Int) - 1) = false := by rw [gj] at hc; simpa using hc
  have hE : eh p m = 2 := by simp [eh, h0, h1]
  refine yS fun _ K8 => ?_
  refine yR ?_
  refine yA rfl rfl ?_
  refine yA rfl rfl ?_
  refine yN ?_
  dsimp only [St.put]
  refine K8 _ ?_
  refine aq ?_
  refine i6 rfl (by constructor) (by constructor) zN zS ?_ ?_
  ·rw [ucq (by rw [hE]; decide)]
  rw [hE]
 have h1 : inB m 0 ((p.pages.length : Int) - 1) = true := by rw [gj] at hc; simpa using hc
 have hE : eh p m = 0 := by simp [eh, h0, h1]
 refine ax ?_
 refine K6 _ ?_
 refine yS fun _ K9 => ?_
 refine yR ?_
 refine yM rfl rfl ?_
 refine yA rfl rfl ?_
 refine yA rfl rfl ?_
 refine yN ?_
 dsimp only [St.put]
 refine K9 _ ?_
 refine aq ?_
 refine i6 rfl (by constructor) (by constructor) zN zS ?_ ?_
 ·unfold pgC; rw [decide_eq_true hE]; rfl
 rw [hE]
theorem uj5 (n : Nat) (p : af) (m : Int) : fu n fm Tryd.prog 12 [val p, .v (.int .i64 m)] (.tup [.v (.int .i64 (qm p m)), .v (.int .i64 (eh p m))]) := fun G nx hF hnx => by
 refine iz (G) (nx) Tryd.func12 rfl (.tup (ci .v (ci .v dh))) zN (fun hlt => zH) ?_
 simp only [Tryd.ntmps12, List.length_cons, List.length_nil, Nat.reduceAdd, Nat.reduceSub]
 refine bu fun hlt => ?_
 dsimp only at hlt
 refine yS fun _ K1 => ?_
 refine yR ?_
 try dsimp only [St.put]
 refine yB rfl rfl rfl ?_
 refine yA rfl rfl ?_
 refine yA rfl rfl ?_
 refine yN ?_
 dsimp only [St.put]
 refine K1 _ ?_
 refine yS fun _ K2 => ?_
 refine yR ?_
 refine yE rfl rfl rfl ?_
 refine yM rfl rfl ?_
 try dsimp only [St.put]
 refine ae rfl (ec rfl rfl rfl (rt n p m) zG (by dsimp only [St.put]; omega) ?_)
 refine yM rfl rfl ?_
 refine yX rfl rfl rfl rfl ?_
 refine yX rfl rfl rfl rfl ?_
 refine yA rfl rfl ?_
 refine yA rfl rfl ?_
 refine yN ?_
 dsimp only [St.put]
 refine K2 _ ?_
 refine yS fun _ K3 => ?_
 refine yS fun _ K4 => ?_
 refine yR ?_
 refine yM rfl rfl ?_
 refine aa rfl (ff rfl rfl rfl) ?_
 refine yN ?_
 dsimp only [St.put]
 refine K4 _ ?_
 refine ar rfl (fun hc => ?_) (fun hc => ?_)
 ·have h0 : eh p m ≠ 0 := j8 hc
  have hV : qm p m = 0 := by unfold qm; rw [mb h0]
  refine yS fun _ K5 => ?_
  refine yR ?_
  refine yM rfl rfl ?_
  refine yA rfl rfl ?_
  refine yA rfl rfl ?_
  refine yN ?_
  dsimp only [St.put]
  refine K5 _ ?_
  refine aq ?_
  refine i6 rfl (by constructor) (by constructor) zN zS ?_ ?_
  ·exact vi hV.symm
  rfl
 have h0 : eh p m = 0 := ip hc
 obtain ⟨hc0, j, x, rfl, hx, hpo⟩ := rf h0
 have hw := rz (fun x => (fl p.text x : Int)) hx
 have hV : qm p (j : Int) = (fl p.text x : Int) := by unfold qm; rw [h0, hpo]; rfl
 rw [tz h0]
 refine ax ?_
 refine K3 _ ?_
 refine yS fun _ K6 => ?_
 refine yR ?_
 refine yM rfl rfl ?_
 refine aa rfl (lz rfl rfl) ?_
 refine yF rfl rfl rfl rfl ?_
 refine yL rfl rfl rfl ?_
 refine yM rfl rfl ?_
 refine aa rfl (cb rfl rfl rfl rfl (ca (by assumption)) (Enc.len _)) ?_
 refine yL rfl rfl rfl ?_
 refine yA rfl rfl ?_
 refine yA rfl rfl ?_
 refine yN ?_
 dsimp only [St.put]
 refine K6 _ ?_
 refine aq ?_
 refine i6 rfl (by constructor) (by constructor) zN zS ?_ ?_
 ·exact vi hV.symm
 exact vi h0.symm
theorem ukh (n : Nat) (p : af) (m : Int) : fu n fm Tryd.prog 14 [val p, .v (.int .i64 m)] (.tup [lst (si p m), .v (.int .i64 (eh p m))]) := fun G nx hF hnx => by
 refine iz (G) (nx) Tryd.func14 rfl (.tup (ci (br _ _) (ci .v dh))) zN (fun hlt => zH) ?_
 simp only [Tryd.ntmps14, List.length_cons, List.length_nil, Nat.reduceAdd, Nat.reduceSub]
 refine bu fun hlt => ?_
 dsimp only at hlt
 refine yS fun _ K1 => ?_
 refine yR ?_
 try dsimp only [St.put]
 refine yB rfl rfl rfl ?_
 refine yA rfl rfl ?_
 refine yA rfl rfl ?_
 refine yN ?_
 dsimp only [St.put]
 refine K1 _ ?_
 refine yS fun _ K2 => ?_
 refine yR ?_
 refine yE rfl rfl rfl ?_
 refine yM rfl rfl ?_
 try dsimp only [St.put]
 refine ae rfl (ec rfl rfl rfl (rt n p m) zG (by dsimp only [St.put]; omega) ?_)
 refine yM rfl rfl ?_
 refine yX rfl rfl rfl rfl ?_
 refine yX rfl rfl rfl rfl ?_
 refine yA rfl rfl ?_
 refine yA rfl rfl ?_
 refine yN ?_
 dsimp only [St.put]
 refine K2 _ ?_
 refine yS fun _ K3 => ?_
 refine yS fun _ K4 => ?_
 refine yR ?_
 refine yM rfl rfl ?_
 refine aa rfl (ff rfl rfl rfl) ?_
 refine yN ?_
 dsimp only [St.put]
 refine K4 _ ?_
 refine ar rfl (fun hc => ?_) (fun hc => ?_)
 ·have h0 : eh p m ≠ 0 := j8 hc
  have hV : si p m = [] := by unfold si; rw [mb h0]
  refine yS fun _ K5 => ?_
  refine yR ?_
  refine yM rfl rfl ?_
  refine yA rfl rfl ?_
  refine yA rfl rfl ?_
  refine yN ?_
  dsimp only [St.put]
  refine K5 _ ?_
  refine aq ?_
  refine ij rfl (ef (by constructor)) (ef (by constructor)) zN zS ?_ ?_
  ·rw [hV]; exact zW
  exact zW
 have h0 : eh p m = 0 := ip hc
 obtain ⟨hc0, j, x, rfl, hx, hpo⟩ := rf h0
 have hw := rz (ey p.text) hx
 have hV : si p (j : Int) = ey p.text x := by unfold si; rw [h0, hpo]; rfl
 rw [tz h0]
 refine ax ?_
 refine K3 _ ?_
 refine yS fun _ K6 => ?_
 refine yR ?_
 refine yM rfl rfl ?_
 refine aa rfl (lz rfl rfl) ?_
 refine yF rfl rfl rfl rfl ?_
 refine yL rfl rfl rfl ?_
 refine yM rfl rfl ?_
 refine aa rfl (cb rfl rfl rfl rfl (ca (by assumption)) (Enc.len _)) ?_
 refine yL rfl rfl rfl ?_
 refine yA rfl rfl ?_
 refine yA rfl rfl ?_
 refine yN ?_
 dsimp only [St.put]
 refine K6 _ ?_
 refine aq ?_
 refine ij rfl (ef (by constructor)) (ef (by constructor)) zN zS ?_ ?_
 ·rw [hV]; exact zW
 rw [h0]; exact zW
theorem ukl (n : Nat) (p : af) (m : Int) : fu n fm Tryd.prog 19 [val p, .v (.int .i64 m)] (.tup [lst (sl p m), .v (.int .i64 (eh p m))]) := fun G nx hF hnx => by
 refine iz (G) (nx) Tryd.func19 rfl (.tup (ci (br _ _) (ci .v dh))) zN (fun hlt => zH) ?_
 simp only [Tryd.ntmps19, List.length_cons, List.length_nil, Nat.reduceAdd, Nat.reduceSub]
 refine bu fun hlt => ?_
 dsimp only at hlt
 refine yS fun _ K1 => ?_
 refine yR ?_
 try dsimp only [St.put]
 refine yB rfl rfl rfl ?_
 refine yA rfl rfl ?_
 refine yA rfl rfl ?_
 refine yN ?_
 dsimp only [St.put]
 refine K1 _ ?_
 refine yS fun _ K2 => ?_
 refine yR ?_
 refine yE rfl rfl rfl ?_
 refine yM rfl rfl ?_
 try dsimp only [St.put]
 refine ae rfl (ec rfl rfl rfl (rt n p m) zG (by dsimp only [St.put]; omega) ?_)
 refine yM rfl rfl ?_
 refine yX rfl rfl rfl rfl ?_
 refine yX rfl rfl rfl rfl ?_
 refine yA rfl rfl ?_
 refine yA rfl rfl ?_
 refine yN ?_
 dsimp only [St.put]
 refine K2 _ ?_
 refine yS fun _ K3 => ?_
 refine yS fun _ K4 => ?_
 refine yR ?_
 refine yM rfl rfl ?_
 refine aa rfl (ff rfl rfl rfl) ?_
 refine yN ?_
 dsimp only [St.put]
 refine K4 _ ?_
 refine ar rfl (fun hc => ?_) (fun hc => ?_)
 ·have h0 : eh p m ≠ 0 := j8 hc
  have hV : sl p m = [] := by unfold sl; rw [mb h0]
  refine yS fun _ K5 => ?_
  refine yR ?_
  refine yM rfl rfl ?_
  refine yA rfl rfl ?_
  refine yA rfl rfl ?_
  refine yN ?_
  dsimp only [St.put]
  refine K5 _ ?_
  refine aq ?_
  refine ij rfl (ef (by constructor)) (ef (by constructor)) zN zS ?_ ?_
  ·rw [hV]; exact zW
  exact zW
 have h0 : eh p m = 0 := ip hc
 obtain ⟨hc0, j, x, rfl, hx, hpo⟩ := rf h0
 have hw := rz (d9 p.text) hx
 have hV : sl p (j : Int) = d9 p.text x := by unfold sl; rw [h0, hpo]; rfl
 rw [tz h0]
 refine ax ?_
 refine K3 _ ?_
 refine yS fun _ K6 => ?_
 refine yR ?_
 refine yM rfl rfl ?_
 refine aa rfl (lz rfl rfl) ?_
 refine yF rfl rfl rfl rfl ?_
 refine yL rfl rfl rfl ?_
 refine yM rfl rfl ?_
 refine aa rfl (cb rfl rfl rfl rfl (ca (by assumption)) (Enc.len _)) ?_
 refine yL rfl rfl rfl ?_
 refine yA rfl rfl ?_
 refine yA rfl rfl ?_
 refine yN ?_
 dsimp only [St.put]
 refine K6 _ ?_
 refine aq ?_
 refine ij rfl (ef (by constructor)) (ef (by constructor)) zN zS ?_ ?_
 ·rw [hV]; exact zW
 rw [h0]; exact zW
theorem ukk (n : Nat) (p : af) (b : Bool) (m : Int) : fu n fm Tryd.prog 21 [val p, .v (.bool b), .v (.int .i64 m)] (.tup [.v (.int .i64 (pc p b m)), .v (.int .i64 (kp p b m))]) := fun G nx hF hnx => by
 refine iz (G) (nx) Tryd.func21 rfl (.tup (ci .v (ci .v dh))) zN (fun hlt => zH) ?_
 simp only [Tryd.ntmps21, List.length_cons, List.length_nil, Nat.reduceAdd, Nat.reduceSub]
 refine bu fun hlt => ?_
 dsimp only at hlt
 refine yS fun _ K1 => ?_
 refine yR ?_
 try dsimp only [St.put]
 refine yB rfl rfl rfl ?_
 refine yA rfl rfl ?_
 refine yA rfl rfl ?_
 refine yN ?_
 dsimp only [St.put]
 refine K1 _ ?_
 refine yS fun _ K2 => ?_
 refine yR ?_
 refine yE rfl rfl rfl ?_
 try dsimp only [St.put]
 refine ae rfl (ec rfl rfl rfl (oz n p) zG (by dsimp only [St.put]; omega) ?_)
 refine yM rfl rfl ?_
 refine yX rfl rfl rfl rfl ?_
 refine yX rfl rfl rfl rfl ?_
 refine yA rfl rfl ?_
 refine yA rfl rfl ?_
 refine yN ?_
 dsimp only [St.put]
 refine K2 _ ?_
 refine yS fun _ K3 => ?_
 refine yS fun _ K4 => ?_
 refine yR ?_
 refine yM rfl rfl ?_
 refine aa rfl (ff rfl rfl rfl) ?_
 refine yN ?_
 dsimp only [St.put]
 refine K4 _ ?_
 refine ar rfl (fun hc => ?_) (fun hc => ?_)
 ·have h0 : cm p ≠ 0 := j8 hc
  have hE : kp p b m = cm p := by simp [kp, h0]
  refine yS fun _ K5 => ?_
  refine yR ?_
  refine yM rfl rfl ?_
  refine yA rfl rfl ?_
  refine yA rfl rfl ?_
  refine yN ?_
  dsimp only [St.put]
  refine K5 _ ?_
  refine aq ?_
  refine i6 rfl (by constructor) (by constructor) zN zS ?_ ?_
  ·exact vi (by simp [pc, atE, hE, h0])
  exact vi hE.symm
 have h0 : cm p = 0 := ip hc
 obtain ⟨hok, _⟩ := lg h0
 have hn1 := hok.nf
 have hn2 := hok.ns
 have hsl : (d8 p b).length ≤ 3 := by
  cases b
  ·exact hn1
  exact hn2
 rw [wz h0]
 refine ax ?_
 refine K3 _ ?_
 refine yS fun _ K6 => ?_
 refine yR ?_
 try dsimp only [St.put]
 refine aa rfl (udo (j := n) (k := 0) (m := 2) (sz := 3) rfl rfl zG rfl rfl (by decide) rfl) ?_
 try dsimp only [St.put]
 refine bg rfl (c := .agg (ot false)) (ju (cs := sidL) rfl rfl (show 3 ≤ 6 by decide)) ?_
 try dsimp only [St.put]
 refine ae rfl (dd rfl ?_)
 try dsimp only [St.put]
 refine ae rfl (cw rfl rfl rfl zG rfl rfl (by rfl) ?_)
 refine yN ?_
 dsimp only [St.put]
 refine K6 _ ?_
 refine cp 13 ?_
 refine zQ ?_
 refine kj (X := Nat) (fun wv => True) (fun wv => []) (fun wv G' => ak G nx (.box wv (ot b))) rfl ?_ ?_ ?_ ?_
 ·rintro wv hI
  exact zL
 ·rintro wv hI
  exact (by (repeat' (refine l4 ?_ (by (try dsimp only); omega) ?_)); all_goals (first | exact l5 zS | (repeat' (first | exact trivial | refine ⟨?_, ?_⟩ | exact .v | exact .any | refine .elem ?_ | exact br _ _ | exact fq _ _ | exact ei _ _ | exact f4 _ (by (try dsimp only); omega) | exact .box (by (try dsimp only); omega) | exact fk | exact dh | exact uit _ _ | refine f8 ?_ ?_ | exact .arr (by (try dsimp only); omega) | exact .own (by (try dsimp only); omega) | exact .map (by (try dsimp only); omega) | exact fa _ | refine ci ?_ ?_ | exact br _ _))))
 ·refine yS fun _ K8 => ?_
  refine yR ?_
  refine yM rfl rfl ?_
  refine yN ?_
  dsimp only [St.put]
  refine K8 _ ?_
  refine ar rfl (fun hc => ?_) (fun hc => ?_)
  ·obtain rfl : b = true := hc
   have hyes : True := trivial
   refine yR ?_
   try dsimp only [St.put]
   refine aa rfl (udo (j := n) (k := 1) (m := 2) (sz := 3) rfl rfl zG rfl rfl (by decide) rfl) ?_
   try dsimp only [St.put]
   refine bg rfl (dl rfl rfl rfl) ?_
   try dsimp only [St.put]
   refine ae rfl (cw rfl rfl rfl zG rfl rfl (by rfl) ?_)
   refine yN ?_
   dsimp only [St.put]
   first
   | exact ⟨1 + 1, hyes, ⟨⟨rfl, rfl⟩, zF, zB, zN, zX⟩⟩
   | exact ⟨1, hno, ⟨⟨rfl, rfl⟩, zF, zB, zN, zX⟩⟩
  obtain rfl : b = false := hc
  have hno : True := trivial
  refine ax ?_
  first
  | exact ⟨1 + 1, hyes, ⟨⟨rfl, rfl⟩, zF, zB, zN, zX⟩⟩
  | exact ⟨1, hno, ⟨⟨rfl, rfl⟩, zF, zB, zN, zX⟩⟩
 rintro wv hI
 dsimp only at hI ⊢
 refine yS fun _ K9 => ?_
 refine yS fun _ K10 => ?_
 refine yR ?_
 refine aa rfl (dn rfl rfl) ?_
 try dsimp only [St.put]
 refine bg rfl (e8 rfl rfl zG trivial (by first | rfl | assumption)) ?_
 refine yE rfl rfl rfl ?_
 try dsimp only [St.put]
 refine ae rfl (ay rfl rfl rfl (pn b p) ?_)
 refine aa rfl (bp rfl rfl (List.length_map _)) ?_
 refine aa rfl (i0 rfl rfl rfl (by omega)) ?_
 refine yM rfl rfl ?_
 try dsimp only [St.put]
 refine ae rfl (du rfl rfl rfl (by decide) (by decide) zR (by decide) ?_)
 try dsimp only [St.put]
 refine ae rfl (ay rfl rfl rfl (nw _ _ [_]) ?_)
 refine aa rfl (eb rfl rfl) ?_
 refine yN ?_
 dsimp only [St.put]
 refine K10 _ ?_
 refine ar rfl (fun hc => ?_) (fun hc => ?_)
 ·have h1 : inB m 0 (((d8 p b).length : Int) - 1) = false := by rw [gj] at hc; simpa using hc
  have hE : kp p b m = 2 := by simp [kp, h0, h1]
  refine yS fun _ K11 => ?_
  refine yR ?_
  refine yA rfl rfl ?_
  refine yA rfl rfl ?_
  refine yN ?_
  dsimp only [St.put]
  refine K11 _ ?_
  refine aq ?_
  refine i6 rfl (by constructor) (by constructor) zN zS ?_ ?_
  ·exact vi (by simp [pc, atE, hE])
  exact vi hE.symm
 have h1 : inB m 0 (((d8 p b).length : Int) - 1) = true := by rw [gj] at hc; simpa using hc
 have hE : kp p b m = 0 := by simp [kp, h0, h1]
 obtain ⟨j, hj⟩ : ∃ j : Nat, m = (j : Int) := ⟨m.toNat, by have := inB_true.1 h1; omega⟩
 subst hj
 have hjl : j < (d8 p b).length := by have := inB_true.1 h1; omega
 have hV : pc p b (j : Int) = na p b j := by simp [pc, atE, hE]
 refine ax ?_
 refine K9 _ ?_
 refine yS fun _ K12 => ?_
 refine yR ?_
 refine yM rfl rfl ?_
 try dsimp only [St.put]
 refine bg rfl (io rfl rfl zG trivial (by rfl)) ?_
 refine yM rfl rfl ?_
 try dsimp only [St.put]
 refine ae rfl (ay rfl rfl rfl (ucs p b j hok hjl) ?_)
 refine yM rfl rfl ?_
 refine yX rfl rfl rfl rfl ?_
 refine yX rfl rfl rfl rfl ?_
 refine yA rfl rfl ?_
 refine yA rfl rfl ?_
 refine yN ?_
 dsimp only [St.put]
 refine K12 _ ?_
 refine yS fun _ K13 => ?_
 refine yR ?_
 refine yM rfl rfl ?_
 refine yA rfl rfl ?_
 refine yA rfl rfl ?_
 refine yN ?_
 dsimp only [St.put]
 refine K13 _ ?_
 refine aq ?_
 refine i6 rfl (by constructor) (by constructor) zN zS ?_ ?_
 ·exact vi hV.symm
 exact vi hE.symm
theorem ukg (n : Nat) (p : af) (m : Int) : fu n fm Tryd.prog 23 [val p, .v (.int .i64 m)] (.tup [val (o6 p m), .v (.int .i64 (n5 p m))]) := fun G nx hF hnx => by
 refine iz (G) (nx) Tryd.func23 rfl (.tup (ci (ei _ _) (ci .v dh))) zN (fun hlt => zH) ?_
 simp only [Tryd.ntmps23, List.length_cons, List.length_nil, Nat.reduceAdd, Nat.reduceSub]
 refine bu fun hlt => ?_
 dsimp only at hlt
 refine yS fun _ K1 => ?_
 refine yR ?_
 try dsimp only [St.put]
 refine yB rfl rfl rfl ?_
 try dsimp only [St.put]
 refine ae rfl (dd rfl ?_)
 refine yA rfl rfl ?_
 refine yN ?_
 dsimp only [St.put]
 refine K1 _ ?_
 refine yS fun _ K2 => ?_
 refine yR ?_
 refine yE rfl rfl rfl ?_
 refine yM rfl rfl ?_
 try dsimp only [St.put]
 refine ae rfl (ec rfl rfl rfl (rt n p m) zG (by dsimp only [St.put]; omega) ?_)
 refine yM rfl rfl ?_
 refine yX rfl rfl rfl rfl ?_
 refine yX rfl rfl rfl rfl ?_
 refine yA rfl rfl ?_
 refine yA rfl rfl ?_
 refine yN ?_
 dsimp only [St.put]
 refine K2 _ ?_
 refine yS fun _ K3 => ?_
 refine yS fun _ K4 => ?_
 refine yR ?_
 refine yM rfl rfl ?_
 refine aa rfl (ff rfl rfl rfl) ?_
 refine yN ?_
 dsimp only [St.put]
 refine K4 _ ?_
 refine ar rfl (fun hc => ?_) (fun hc => ?_)
 ·have h0 : eh p m ≠ 0 := j8 hc
  have hE : n5 p m = eh p m := by unfold n5; rw [decide_eq_false h0]; rfl
  have hV : o6 p m = ⟨0, 0⟩ := by unfold o6; rw [hE, mb h0]
  refine yS fun _ K5 => ?_
  refine yR ?_
  refine aa rfl (ie rfl rfl) ?_
  refine yM rfl rfl ?_
  try dsimp only [St.put]
  refine ae rfl (cw rfl rfl rfl zG rfl rfl (by rfl) ?_)
  refine yA rfl rfl ?_
  refine yN ?_
  dsimp only [St.put]
  refine K5 _ ?_
  refine aq ?_
  refine ij rfl (jv rfl zG (by rfl) zC rfl) (ef (by constructor)) zN zS ?_ ?_
  ·rw [hV]; exact zW
  rw [hE]; exact zW
 have h0 : eh p m = 0 := ip hc
 obtain ⟨hc0, j, x, rfl, hx, hpo⟩ := rf h0
 obtain ⟨hok, _⟩ := lg hc0
 have hp := pageB_true.1 (hok.page j x hx)
 have hal := rh hok.text
 have hfl := qc hp.found
 have hwl := qc hp.well
 have hbl := ufz p.text x
 have hw := rz (d9 p.text) hx
 rw [tz h0]
 refine ax ?_
 refine K3 _ ?_
 refine yS fun _ K6 => ?_
 refine yR ?_
 refine yM rfl rfl ?_
 refine aa rfl (lz rfl rfl) ?_
 refine yF rfl rfl rfl rfl ?_
 refine yL rfl rfl rfl ?_
 refine yM rfl rfl ?_
 refine aa rfl (cb rfl rfl rfl rfl (ca (by assumption)) (Enc.len _)) ?_
 refine yL rfl rfl rfl ?_
 refine aa rfl (bp rfl rfl (List.length_map _)) ?_
 refine yA rfl rfl ?_
 refine yN ?_
 dsimp only [St.put]
 refine K6 _ ?_
 refine yS fun _ K7 => ?_
 refine yS fun _ K8 => ?_
 refine yR ?_
 refine yM rfl rfl ?_
 refine aa rfl (fp rfl rfl rfl) ?_
 refine yN ?_
 dsimp only [St.put]
 refine K8 _ ?_
 refine ar rfl (fun hc => ?_) (fun hc => ?_)
 ·have hk : (d9 p.text x).length = 0 := by have := of_decide_eq_true hc; omega
  have hE : n5 p (j : Int) = 6 := by unfold n5; rw [h0, hpo, decide_eq_true hk]; rfl
  have hV : o6 p (j : Int) = ⟨0, 0⟩ := by unfold o6; rw [hE, mb (by decide)]
  refine yS fun _ K9 => ?_
  refine yR ?_
  refine aa rfl (ie rfl rfl) ?_
  try dsimp only [St.put]
  refine ae rfl (cw rfl rfl rfl zG rfl rfl (by rfl) ?_)
  refine yA rfl rfl ?_
  refine yN ?_
  dsimp only [St.put]
  refine K9 _ ?_
  refine aq ?_
  refine ij rfl (jv rfl zG (by rfl) zC rfl) (ef (by constructor)) zN zS ?_ ?_
  ·rw [hV]; exact zW
  rw [hE]; exact zW
 have hk : ¬ (d9 p.text x).length = 0 := by have := of_decide_eq_false hc; omega
 obtain ⟨hE, hV⟩ := umj h0 hpo rfl hk
 have hfw : x.found.length * x.well.length ≤ 600 * 600 := Nat.mul_le_mul (by omega) (by omega)
 have hfc := Int.natCast_mul x.found.length x.well.length
 have hjl := (List.getElem?_eq_some_iff.1 hx).1
 refine ax ?_
 refine K7 _ ?_
 refine yS fun _ K10 => ?_
 refine g8 [(0, none), (1, none), (2, none), (3, none), (4, none), (5, none), (6, none), (7, none), (8, none), (9, none), (10, none), (11, none), (12, none), (13, none), (14, none), (15, none)] (fun i => [].contains i) (fun i => [].contains i) (fun i => [0, 2, 3, 4, 6, 7, 9, 10, 11, 13, 14, 15].contains i) [] (by kernel_rfl) (by kernel_rfl) ?_
 refine ah rfl rfl rfl rfl (ce rfl rfl rfl) ?_
 try dsimp only [St.put]
 refine aw rfl rfl rfl rfl (bq rfl rfl) ?_
 refine xM rfl rfl rfl rfl rfl ?_
 try dsimp only [St.put]
 refine ah rfl rfl rfl rfl (cb rfl rfl rfl rfl (ca (by assumption)) (Enc.len _)) ?_
 refine ah rfl rfl rfl rfl (ce rfl rfl rfl) ?_
 try dsimp only [St.put]
 refine aw rfl rfl rfl rfl (bq rfl rfl) ?_
 refine ah rfl rfl rfl rfl (bp rfl rfl (List.length_map _)) ?_
 refine ah rfl rfl rfl rfl (ce rfl rfl rfl) ?_
 try dsimp only [St.put]
 refine aw rfl rfl rfl rfl (bq rfl rfl) ?_
 refine xM rfl rfl rfl rfl rfl ?_
 try dsimp only [St.put]
 refine ah rfl rfl rfl rfl (cb rfl rfl rfl rfl (ca (by assumption)) (Enc.len _)) ?_
 refine ah rfl rfl rfl rfl (ce rfl rfl rfl) ?_
 try dsimp only [St.put]
 refine aw rfl rfl rfl rfl (bq rfl rfl) ?_
 refine ah rfl rfl rfl rfl (bp rfl rfl (List.length_map _)) ?_
 refine ah rfl rfl rfl rfl (zr rfl rfl rfl (by omega)) ?_
 refine ah rfl rfl rfl rfl (cz rfl (by constructor)) ?_
 refine cn ?_
 dsimp only [St.put]
 rw [show (x.found.length : Int) * (x.well.length : Int) = ((x.found.length * x.well.length : Nat) : Int) from hfc.symm]
 obtain ⟨M, hM⟩ : ∃ M, x.found.length * x.well.length = M := ⟨_, rfl⟩
 obtain ⟨K, hK⟩ : ∃ K, (d9 p.text x).length = K := ⟨_, rfl⟩
 have hV2 : o6 p (j : Int) = ⟨(M : Int) / (K : Int), ((M : Int) + (K : Int) - 1) / (K : Int)⟩ := by
  rw [hV]
  unfold uah
  rw [hM, hK, Int.natCast_ediv, Int.natCast_ediv, show ((M + K - 1 : Nat) : Int) = (M : Int) + (K : Int) - 1 by omega]
 rw [hM] at hfw
 rw [hK] at hk hbl
 rw [hM, hK]
 refine K10 _ ?_
 refine yS fun _ K11 => ?_
 refine g8 [(0, none), (1, none), (2, none), (3, none), (4, none), (5, none), (6, none), (7, none), (8, none), (9, none), (10, none), (11, none)] (fun i => [10].contains i) (fun i => [10].contains i) (fun i => [0, 1, 2, 3, 4, 5, 6, 7, 8, 9, 11].contains i) [] (by kernel_rfl) (by kernel_rfl) ?_
 refine xM rfl rfl rfl rfl rfl ?_
 refine xM rfl rfl rfl rfl rfl ?_
 refine ah rfl rfl rfl rfl (zq rfl rfl rfl (by omega) (by omega)) ?_
 refine xM rfl rfl rfl rfl rfl ?_
 refine xM rfl rfl rfl rfl rfl ?_
 refine ah rfl rfl rfl rfl (cg rfl rfl rfl (by omega)) ?_
 refine ah rfl rfl rfl rfl (i0 rfl rfl rfl (by omega)) ?_
 refine xM rfl rfl rfl rfl rfl ?_
 refine ah rfl rfl rfl rfl (zq rfl rfl rfl (by omega) (by omega)) ?_
 refine ah rfl rfl rfl rfl (ie rfl rfl) ?_
 refine jf ?_
 try dsimp only [St.put]
 refine g9 rfl rfl rfl rfl (cw rfl rfl rfl zG rfl rfl (by rfl) ?_)
 refine ed rfl rfl rfl rfl (cz rfl (by constructor)) ?_
 refine je ?_
 dsimp only [St.put]
 refine K11 _ ?_
 refine aq ?_
 refine ij rfl (jv rfl zG (by rfl) zC rfl) (ef (by constructor)) zN zS ?_ ?_
 ·rw [hV2]; exact zW
 rw [hE]; exact zW
end Go.Proofs.YtbbdginipiljdaaDoor
namespace Go.AB
open Go Go.RowKit
open Go.AB.Enc (cells)
open Go.PB (av ai PlaceD az bf ba bl am af co bj dc dg)
/-- who has read a page, of some sides -/
def pp (p : af) (x : am) : Nat → List Int
 | 0 => []
 | k + 1 => pp p x k ++ bif decide (0 ≤ el (decide (k = 1)) x) then [(sdN p k : Int) + el (decide (k = 1)) x] else []
theorem ujp (p : af) (x : am) : pp p x 2 = da p x := by
 show ([] ++ bif decide (0 ≤ x.fst) then [((0 : Nat) : Int) + x.fst] else []) ++ (bif decide (0 ≤ x.snd) then [(p.firsts.length : Int) + x.snd] else []) = da p x
 rw [List.nil_append, show ((0 : Nat) : Int) + x.fst = x.fst by omega]
 rfl
theorem ucf (p : af) (x : am) : ∀ k, (pp p x k).length ≤ k
 | 0 => Nat.le_refl _
 | k + 1 => by
  have := ucf p x k
  simp only [pp, List.length_append]
  cases decide (0 ≤ el (decide (k = 1)) x)
  ·rw [cond_false]; simp; omega
  rw [cond_true]; simp; omega
theorem ulm {α β : Type} {l : List α} {j : Nat} {x : α} (f : α → β) (h : l[j]? = some x) : (l.take (j + 1)).map f = (l.take j).map f ++ [f x] := by rw [List.take_add_one, h, Option.toList_some, List.map_append]; rfl
theorem ul2 {p : af} : (!(cx (cc p) (bv p)).any fun n => decide (n < 0)) = ga p := by
 rw [Bool.eq_iff_iff, Bool.not_eq_true', ← Bool.not_eq_true, List.any_eq_true]
 unfold ga cx
 rw [List.all_eq_true]
 constructor
 ·intro h i hi
  refine decide_eq_true ?_
  rcases Int.lt_or_le (bv p i) 0 with q | q
  ·exact absurd ⟨_, List.mem_map.2 ⟨i, hi, rfl⟩, decide_eq_true q⟩ h
  exact q
 rintro h ⟨z, hz, hl⟩
 obtain ⟨i, hi, rfl⟩ := List.mem_map.1 hz
 have := of_decide_eq_true (h i hi)
 have := of_decide_eq_true hl
 omega
end Go.AB
namespace Go.Proofs.YtbbdginipiljdaaDoor
set_option maxRecDepth 10000
open Go Go.RowKit Go.AB
open Go.AB.Enc (cells)
open Go.PB (av ai PlaceD az bf ba bl am af co bj dc dg)
theorem ujd (z : Int) : Pure Tryd.prog 105 [.v (.int .i64 z)] (.v (.bool (decide (z < 0)))) := by
 refine c5 Tryd.func105 rfl (fun m => .v) fun G nx => ?_
 simp only [Tryd.ntmps105, List.length_cons, List.length_nil, Nat.reduceAdd, Nat.reduceSub]
 refine bu fun hlt => ?_
 dsimp only at hlt
 refine yS fun _ K1 => ?_
 refine yR ?_
 refine yA rfl rfl ?_
 refine yN ?_
 dsimp only [St.put]
 refine K1 _ ?_
 refine yS fun _ K2 => ?_
 refine yR ?_
 refine yM rfl rfl ?_
 refine aa rfl (cv rfl rfl rfl) ?_
 refine yA rfl rfl ?_
 refine yN ?_
 dsimp only [St.put]
 refine K2 _ ?_
 refine aq ?_
 refine bh rfl (by constructor) zN zS ?_
 rfl
theorem ulz (p : af) : Pure Tryd.prog 104 [.elem (ku p)] (.fn (.func 116) [.elem [.elem (ku p)]]) := by
 refine c5 Tryd.func104 rfl (fun m => (.fn (ci (.elem (ci (.elem (ci (br _ _) (ci (br _ _) (ci (br _ _) (ci (br _ _) (ci (br _ _) (ci (br _ _) (ci (br _ _) dh)))))))) dh)) dh))) fun G nx => ?_
 simp only [Tryd.ntmps104, List.length_cons, List.length_nil, Nat.reduceAdd, Nat.reduceSub]
 refine bu fun hlt => ?_
 dsimp only at hlt
 refine yS fun _ K1 => ?_
 refine yR ?_
 try dsimp only [St.put]
 refine yB rfl rfl rfl ?_
 refine yA rfl rfl ?_
 refine yN ?_
 dsimp only [St.put]
 refine K1 _ ?_
 refine yS fun _ K2 => ?_
 refine yR ?_
 refine aa rfl (pu rfl rfl) ?_
 refine yA rfl rfl ?_
 refine yN ?_
 dsimp only [St.put]
 refine K2 _ ?_
 refine aq ?_
 refine bh rfl (by constructor) zN zS ?_
 rfl
set_option maxHeartbeats 2000000 in
theorem ukc (n : Nat) (p : af) (h : ez p) : fu n fm Tryd.prog 84 [.elem (ku p)] (.tup [val (gh p (bv p) (cj p)), .v (.bool (ga p))]) := fun G nx hF hnx => by
 refine iz (G) (nx) Tryd.func84 rfl (.tup (ci (ei _ _) (ci .v dh))) zN (fun hlt => zH) ?_
 simp only [Tryd.ntmps84, List.length_cons, List.length_nil, Nat.reduceAdd, Nat.reduceSub]
 refine bu fun hlt => ?_
 dsimp only at hlt
 have hn1 := h.nf
 have hn2 := h.ns
 have hnp := h.np
 have hnr : cc p = p.firsts.length + p.seconds.length := rfl
 have hal := rh h.text
 refine yS fun _ K1 => ?_
 refine yR ?_
 try dsimp only [St.put]
 refine ae rfl (dd rfl ?_)
 refine yA rfl rfl ?_
 refine yN ?_
 dsimp only [St.put]
 refine K1 _ ?_
 refine yS fun _ K2 => ?_
 refine yR ?_
 try dsimp only [St.put]
 refine ae rfl (dd rfl ?_)
 refine yN ?_
 dsimp only [St.put]
 refine K2 _ ?_
 refine oh (nx + 1) 0 _ _ 3 1 zG rfl (by decide) ?_
 refine oh (nx + 1) 1 _ _ 3 1 zG rfl (by decide) ?_
 refine oh (nx + 1) 2 _ _ 57 1 zG rfl (by decide) ?_
 dsimp only [List.set_cons_zero, List.set_cons_succ]
 refine yS fun _ K3 => ?_
 refine yS fun _ K4 => ?_
 refine yR ?_
 refine yM rfl rfl ?_
 try dsimp only [St.put]
 refine ae rfl (ay rfl rfl rfl (ulz p) ?_)
 refine yN ?_
 dsimp only [St.put]
 refine K4 _ ?_
 refine bk ?_
 refine cp 15 ?_
 refine zQ ?_
 refine dq ((ak (ak (ak (ak (ak G nx (.box 0 [.list [] .nil, .list [] .nil, .list [] .nil])) (nx + 1) (.box (0) [.list ((cx 0 (bv p)).map cells) (.tip (nx + 1 + 1)), .list ((cx 0 (cj p)).map cells) (.tip (nx + 1 + 1 + 1)), .list (((p.pages.take 0).map (da p)).map cells) (.tip (nx + 1 + 1 + 1 + 1))])) (nx + 1 + 1) (.tip (cx 0 (bv p)).length 3 1)) (nx + 1 + 1 + 1) (.tip (cx 0 (cj p)).length 3 1)) (nx + 1 + 1 + 1 + 1) (.tip ((p.pages.take 0).map (da p)).length 57 1))) zX ?_
 dsimp only
 refine uga [15] (fun k => (ak (ak (ak (ak (ak G nx (.box 0 [.list [] .nil, .list [] .nil, .list [] .nil])) (nx + 1) (.box (k) [.list ((cx k (bv p)).map cells) (.tip (nx + 1 + 1)), .list ((cx 0 (cj p)).map cells) (.tip (nx + 1 + 1 + 1)), .list (((p.pages.take 0).map (da p)).map cells) (.tip (nx + 1 + 1 + 1 + 1))])) (nx + 1 + 1) (.tip (cx k (bv p)).length 3 1)) (nx + 1 + 1 + 1) (.tip (cx 0 (cj p)).length 3 1)) (nx + 1 + 1 + 1 + 1) (.tip ((p.pages.take 0).map (da p)).length 57 1))) (fun k => [(15, .v (.int .i64 (bv p k)))]) (ul0 n p h) (fun k => zG) (by (try dsimp only); omega) rfl rfl (fun _ => rfl) ?_ ?_ ?_ (fun lr k hrk => ?_) ?_
 ·intro k
  rfl
 ·exact zX
 ·intro k
  exact zH
 ·have hll := jq k (bv p)
  refine yR ?_
  refine yA rfl rfl ?_
  refine yN ?_
  dsimp only [St.put]
  show AW _ _ _ _ _
  refine bk ?_
  refine yR ?_
  refine aa rfl (dn rfl rfl) ?_
  try dsimp only [St.put]
  refine bg rfl (e8 rfl rfl zG trivial (by first | rfl | assumption)) ?_
  refine yM rfl rfl ?_
  try dsimp only [St.put]
  refine ae rfl (du rfl rfl rfl (by decide) (by decide) zR (by decide) ?_)
  try dsimp only [St.put]
  refine ae rfl (jz ([bv p k]) rfl rfl zG zE rfl rfl zA ?_ zA)
  refine aa rfl (dn rfl rfl) ?_
  try dsimp only [St.put]
  refine ae rfl (i7 rfl rfl rfl zG (by constructor) rfl zO ?_)
  refine yN ?_
  dsimp only [St.put]
  rw [← yn k (bv p)]
  exact zX
 dsimp only
 refine K3 _ ?_
 refine yS fun _ K5 => ?_
 refine yS fun _ K6 => ?_
 refine yR ?_
 refine yM rfl rfl ?_
 refine aa rfl (lz rfl rfl) ?_
 refine yF rfl rfl rfl rfl ?_
 refine yF rfl rfl rfl rfl ?_
 refine yL rfl rfl rfl ?_
 refine aa rfl (bp rfl rfl (List.length_map _)) ?_
 refine yM rfl rfl ?_
 refine yN ?_
 dsimp only [St.put]
 refine K6 _ ?_
 refine bk ?_
 refine cp 29 ?_
 refine zQ ?_
 refine dq ((ak (ak (ak (ak (ak G nx (.box 0 [.list [] .nil, .list [] .nil, .list [] .nil])) (nx + 1) (.box ((cc p)) [.list ((cx (cc p) (bv p)).map cells) (.tip (nx + 1 + 1)), .list ((cx 0 (cj p)).map cells) (.tip (nx + 1 + 1 + 1)), .list (((p.pages.take 0).map (da p)).map cells) (.tip (nx + 1 + 1 + 1 + 1))])) (nx + 1 + 1) (.tip (cx (cc p) (bv p)).length 3 1)) (nx + 1 + 1 + 1) (.tip (cx 0 (cj p)).length 3 1)) (nx + 1 + 1 + 1 + 1) (.tip ((p.pages.take 0).map (da p)).length 57 1))) zX ?_
 dsimp only
 refine dp (X := Nat) (fun j => j ≤ p.pages.length) (fun j => p.pages.length - j) (fun j => [(6, .any), (7, .any), (8, .any), (9, .any), (10, .any), (11, .any), (12, .any), (28, .v (.int .i64 (j : Int)))]) (fun j G' => (ak (ak (ak (ak (ak G nx (.box 0 [.list [] .nil, .list [] .nil, .list [] .nil])) (nx + 1) (.box ((cc p + 2 * j)) [.list ((cx (cc p) (bv p)).map cells) (.tip (nx + 1 + 1)), .list ((cx j (cj p)).map cells) (.tip (nx + 1 + 1 + 1)), .list (((p.pages.take j).map (da p)).map cells) (.tip (nx + 1 + 1 + 1 + 1))])) (nx + 1 + 1) (.tip (cx (cc p) (bv p)).length 3 1)) (nx + 1 + 1 + 1) (.tip (cx j (cj p)).length 3 1)) (nx + 1 + 1 + 1 + 1) (.tip ((p.pages.take j).map (da p)).length 57 1))) 0 rfl ?_ ?_ ?_ ?_ ?_ ?_
 ·exact Nat.zero_le _
 ·exact zF
 ·exact zX
 ·rintro j hI
  exact zL
 ·rintro j hI
  exact zH
 rintro j hJ
 dsimp only at hJ ⊢
 refine yS fun _ K7 => ?_
 refine yR ?_
 refine aa rfl (cv rfl rfl rfl) ?_
 refine yN ?_
 dsimp only [St.put]
 refine K7 _ ?_
 refine yS fun _ K8 => ?_
 refine ar rfl (fun hc => ?_) (fun hc => ?_)
 ·replace hc := of_decide_eq_true hc
  obtain ⟨x, hx⟩ : ∃ x, p.pages[j]? = some x := dr (by omega)
  have hw1 : (p.pages.map fun x => (fl p.text x : Int))[j]? = some (fl p.text x : Int) := rz (fun x => (fl p.text x : Int)) hx
  have hw2 := rz (ey p.text) hx
  have hgl := xn p.text x
  have hwx := yf p.text x
  have hll := jq j (cj p)
  have hp := pageB_true.1 (h.page j x hx)
  have hp1 := hp.fst
  have hp2 := hp.snd
  have hll2 : ((p.pages.take j).map (da p)).length ≤ 8 := by rw [List.length_map, List.length_take]; omega
  refine ax ?_
  refine K8 _ ?_
  refine yS fun _ K9 => ?_
  refine bk ?_
  refine yS fun _ K10 => ?_
  refine yR ?_
  refine yM rfl rfl ?_
  refine aa rfl (cb rfl rfl rfl rfl (ca (by assumption)) (Enc.len _)) ?_
  refine yE rfl rfl rfl ?_
  try dsimp only [St.put]
  refine ae rfl (dd rfl ?_)
  refine yA rfl rfl ?_
  try dsimp only [St.put]
  refine ae rfl (cw rfl rfl rfl zG rfl rfl (by rfl) ?_)
  refine yN ?_
  dsimp only [St.put]
  refine K10 _ ?_
  refine fj (i := 7) rfl zG zC ?_
  dsimp only
  refine yS fun _ K11 => ?_
  refine g8 [(0, none), (1, none), (2, none), (3, none), (4, none), (5, none), (6, none), (7, none), (8, none), (9, none), (10, none), (11, none), (12, none), (13, none), (14, none), (15, none), (16, none), (17, none), (18, none), (19, none), (20, none), (21, none)] (fun i => [19, 21].contains i) (fun i => [18, 19, 21].contains i) (fun i => [0, 2, 3, 4, 6, 7, 9, 10, 11, 13, 14, 16, 17, 20].contains i) [nx + 1] (by kernel_rfl) (by kernel_rfl) ?_
  refine ah rfl rfl rfl rfl (dn rfl rfl) ?_
  try dsimp only [St.put]
  refine aw rfl rfl rfl rfl (e8 rfl rfl zG (by simp) (by first | rfl | assumption)) ?_
  refine xM rfl rfl rfl rfl rfl ?_
  refine ah rfl rfl rfl rfl (lz rfl rfl) ?_
  refine ah rfl rfl rfl rfl (ce rfl rfl rfl) ?_
  try dsimp only [St.put]
  refine aw rfl rfl rfl rfl (bq rfl rfl) ?_
  refine xM rfl rfl rfl rfl rfl ?_
  try dsimp only [St.put]
  refine ah rfl rfl rfl rfl (cb rfl rfl rfl rfl (ca (by assumption)) (Enc.len _)) ?_
  try dsimp only [St.put]
  refine aw rfl rfl rfl rfl (bq rfl rfl) ?_
  refine xM rfl rfl rfl rfl rfl ?_
  refine ah rfl rfl rfl rfl (lz rfl rfl) ?_
  refine ah rfl rfl rfl rfl (ce rfl rfl rfl) ?_
  try dsimp only [St.put]
  refine aw rfl rfl rfl rfl (bq rfl rfl) ?_
  refine xM rfl rfl rfl rfl rfl ?_
  try dsimp only [St.put]
  refine ah rfl rfl rfl rfl (cb rfl rfl rfl rfl (ca (by assumption)) (Enc.len _)) ?_
  try dsimp only [St.put]
  refine aw rfl rfl rfl rfl (bq rfl rfl) ?_
  refine ah rfl rfl rfl rfl (bp rfl rfl (List.length_map _)) ?_
  refine ah rfl rfl rfl rfl (i0 rfl rfl rfl (by omega)) ?_
  refine jf ?_
  try dsimp only [St.put]
  refine i9 rfl rfl rfl (du rfl rfl rfl (by decide) (by decide) zR (by decide) ⟨zD, ?_⟩)
  try dsimp only [St.put]
  refine g9 rfl rfl rfl rfl (jz ([(fl p.text x : Int) - ((ey p.text x).length : Int)]) rfl rfl zG zE rfl rfl zA ?_ zA)
  refine ed rfl rfl rfl rfl (dn rfl rfl) ?_
  try dsimp only [St.put]
  refine g9 rfl rfl rfl rfl (i7 rfl rfl rfl zG (by constructor) rfl zO ?_)
  refine je ?_
  dsimp only [St.put]
  have e := yn j (cj p)
  rw [show cj p j = (fl p.text x : Int) - ((ey p.text x).length : Int) from wr hx _] at e
  simp only [← e]
  refine K11 _ ?_
  refine yS fun _ K12 => ?_
  refine yR ?_
  refine yA rfl rfl ?_
  refine yN ?_
  dsimp only [St.put]
  refine K12 _ ?_
  refine re 8 3 1 rfl (by decide) ?_
  dsimp only [List.set_cons_zero, List.set_cons_succ]
  refine yS fun _ K13 => ?_
  refine yR ?_
  refine yA rfl rfl ?_
  refine yN ?_
  dsimp only [St.put]
  refine K13 _ ?_
  refine yS fun _ K14 => ?_
  refine yS fun _ K15 => ?_
  refine yR ?_
  try dsimp only [St.put]
  refine bg rfl (nm (n := 6) (m := n) rfl rfl zG rfl) ?_
  refine yM rfl rfl ?_
  refine yN ?_
  dsimp only [St.put]
  refine K15 _ ?_
  refine bk ?_
  refine cp 56 ?_
  refine zQ ?_
  refine dq (ak ((ak (ak (ak (ak (ak G nx (.box 0 [.list [] .nil, .list [] .nil, .list [] .nil])) (nx + 1) (.box ((cc p + 2 * j + 1)) [.list ((cx (cc p) (bv p)).map cells) (.tip (nx + 1 + 1)), .list ((cx (j + 1) (cj p)).map cells) (.tip (nx + 1 + 1 + 1)), .list (((p.pages.take j).map (da p)).map cells) (.tip (nx + 1 + 1 + 1 + 1))])) (nx + 1 + 1) (.tip (cx (cc p) (bv p)).length 3 1)) (nx + 1 + 1 + 1) (.tip (cx (j + 1) (cj p)).length 3 1)) (nx + 1 + 1 + 1 + 1) (.tip ((p.pages.take j).map (da p)).length 57 1))) (nx + 1 + 1 + 1 + 1 + 1 + 1) (.tip 0 3 1)) zX ?_
  dsimp only
  refine dp (X := Nat) (fun k => k ≤ 2) (fun k => 2 - k) (fun k => [(8, .list ((pp p x k).map cells) (.tip (nx + 1 + 1 + 1 + 1 + 1 + 1))), (9, .v (.int .i64 (sdN p k : Int))), (11, .any), (12, .any), (55, .v (.int .i64 (k : Int)))]) (fun k G' => ak ((ak (ak (ak (ak (ak G nx (.box 0 [.list [] .nil, .list [] .nil, .list [] .nil])) (nx + 1) (.box ((cc p + 2 * j + 1)) [.list ((cx (cc p) (bv p)).map cells) (.tip (nx + 1 + 1)), .list ((cx (j + 1) (cj p)).map cells) (.tip (nx + 1 + 1 + 1)), .list (((p.pages.take j).map (da p)).map cells) (.tip (nx + 1 + 1 + 1 + 1))])) (nx + 1 + 1) (.tip (cx (cc p) (bv p)).length 3 1)) (nx + 1 + 1 + 1) (.tip (cx (j + 1) (cj p)).length 3 1)) (nx + 1 + 1 + 1 + 1) (.tip ((p.pages.take j).map (da p)).length 57 1))) (nx + 1 + 1 + 1 + 1 + 1 + 1) (.tip (pp p x k).length 3 1)) 0 rfl ?_ ?_ ?_ ?_ ?_ ?_
  ·exact Nat.zero_le _
  ·exact zF
  ·exact zX
  ·rintro k hI
   exact zL
  ·rintro k hI
   exact zH
  rintro k hK
  dsimp only at hK ⊢
  refine yS fun _ K16 => ?_
  refine yR ?_
  refine aa rfl (cv rfl rfl rfl) ?_
  refine yN ?_
  dsimp only [St.put]
  refine K16 _ ?_
  refine yS fun _ K17 => ?_
  refine ar rfl (fun hc => ?_) (fun hc => ?_)
  ·replace hc := of_decide_eq_true hc
   have hk : k < 2 := by omega
   have hsd : sdN p k ≤ 3 ∧ (d8 p (decide (k = 1))).length ≤ 3 ∧ -1 ≤ el (decide (k = 1)) x ∧ el (decide (k = 1)) x ≤ 3 := by
    have : k = 0 ∨ k = 1 := by omega
    rcases this with rfl | rfl
    ·exact ⟨Nat.zero_le _, hn1, by show -1 ≤ x.fst; omega, by show x.fst ≤ 3; omega⟩
    exact ⟨hn1, hn2, by show -1 ≤ x.snd; omega, by show x.snd ≤ 3; omega⟩
   have hst : pp p x (k + 1) = pp p x k ++ bif decide (0 ≤ el (decide (k = 1)) x) then [(sdN p k : Int) + el (decide (k = 1)) x] else [] := rfl
   have hrl := ucf p x k
   refine ax ?_
   refine K17 _ ?_
   refine yS fun _ K18 => ?_
   refine bk ?_
   refine yS fun _ K19 => ?_
   refine yR ?_
   refine aa rfl (w9 (k := k) (m := 2) (sz := 3) rfl rfl rfl rfl hk (v8 hk)) ?_
   try dsimp only [St.put]
   refine ae rfl (dd rfl ?_)
   try dsimp only [St.put]
   refine ae rfl (cw rfl rfl rfl zG rfl rfl (by rfl) ?_)
   refine yN ?_
   dsimp only [St.put]
   refine K19 _ ?_
   refine fj (i := 11) rfl zG zC ?_
   dsimp only
   refine yS fun _ K20 => ?_
   refine yS fun _ K21 => ?_
   refine yR ?_
   refine yF rfl rfl rfl rfl ?_
   refine yL rfl rfl rfl ?_
   refine yE rfl rfl rfl ?_
   try dsimp only [St.put]
   refine ae rfl (ay rfl rfl rfl (yy (decide (k = 1)) x) ?_)
   refine yA rfl rfl ?_
   refine yN ?_
   dsimp only [St.put]
   refine K21 _ ?_
   refine yS fun _ K22 => ?_
   refine yR ?_
   refine yM rfl rfl ?_
   refine aa rfl (kb rfl rfl rfl) ?_
   refine yN ?_
   dsimp only [St.put]
   refine K22 _ ?_
   refine ar rfl (fun hc => ?_) (fun hc => ?_)
   ·have hyes : 0 ≤ el (decide (k = 1)) x := of_decide_eq_true hc
    refine yR ?_
    refine yM rfl rfl ?_
    refine yM rfl rfl ?_
    refine yM rfl rfl ?_
    refine aa rfl (cg rfl rfl rfl (by omega)) ?_
    try dsimp only [St.put]
    refine ae rfl (du rfl rfl rfl (by decide) (by decide) zR (by decide) ?_)
    try dsimp only [St.put]
    refine ae rfl (jz ([(sdN p k : Int) + el (decide (k = 1)) x]) rfl rfl zG zE rfl rfl zA ?_ zA)
    refine yA rfl rfl ?_
    refine yN ?_
    dsimp only [St.put]
    refine K20 _ ?_
    refine g8 [(0, none), (1, none), (2, none), (3, none), (4, none), (5, none), (6, none), (7, none), (8, none), (9, none), (10, none)] (fun i => [7].contains i) (fun i => [7].contains i) (fun i => [0, 1, 3, 4, 5, 8, 9, 10].contains i) [] (by kernel_rfl) (by kernel_rfl) ?_
    refine xM rfl rfl rfl rfl rfl ?_
    refine ah rfl rfl rfl rfl (ce rfl rfl rfl) ?_
    try dsimp only [St.put]
    refine aw rfl rfl rfl rfl (bq rfl rfl) ?_
    refine xM rfl rfl rfl rfl rfl ?_
    refine ah rfl rfl rfl rfl (lz rfl rfl) ?_
    refine ah rfl rfl rfl rfl (ce rfl rfl rfl) ?_
    try dsimp only [St.put]
    refine aw rfl rfl rfl rfl (c := val p) (ju (cs := ku p) rfl rfl (show 4 ≤ 7 by decide)) ?_
    refine jf ?_
    try dsimp only [St.put]
    refine g9 rfl rfl rfl rfl (ay rfl rfl rfl (pn (decide (k = 1)) p) ?_)
    refine ed rfl rfl rfl rfl (bp rfl rfl (List.length_map _)) ?_
    refine ed rfl rfl rfl rfl (cg rfl rfl rfl (by omega)) ?_
    refine ed rfl rfl rfl rfl (cz rfl (by constructor)) ?_
    refine je ?_
    dsimp only [St.put]
    refine K18 _ ?_
    refine yR ?_
    refine aa rfl (cg rfl rfl rfl (by omega)) ?_
    refine yM rfl rfl ?_
    refine yN ?_
    dsimp only [St.put]
    rw [show ((sdN p k : Nat) : Int) + ((d8 p (decide (k = 1))).length : Int) = ((sdN p (k + 1) : Nat) : Int) by rw [yx hk]; omega]
    first
    | (have z : 0 ≤ el (decide (k = 1)) x := hyes
       rw [decide_eq_true z, cond_true] at hst
       rw [← hst]
       exact ⟨k + 1, by omega, by omega, ⟨⟨rfl, rfl⟩, zF, zB, zN, zX⟩⟩)
    | (have z : ¬ 0 ≤ el (decide (k = 1)) x := hno
       rw [decide_eq_false z, cond_false, List.append_nil] at hst
       rw [← hst]
       exact ⟨k + 1, by omega, by omega, ⟨⟨rfl, rfl⟩, zF, zB, zN, zX⟩⟩)
   have hno : ¬ 0 ≤ el (decide (k = 1)) x := of_decide_eq_false hc
   refine ax ?_
   refine K20 _ ?_
   refine g8 [(0, none), (1, none), (2, none), (3, none), (4, none), (5, none), (6, none), (7, none), (8, none), (9, none), (10, none)] (fun i => [7].contains i) (fun i => [7].contains i) (fun i => [0, 1, 3, 4, 5, 8, 9, 10].contains i) [] (by kernel_rfl) (by kernel_rfl) ?_
   refine xM rfl rfl rfl rfl rfl ?_
   refine ah rfl rfl rfl rfl (ce rfl rfl rfl) ?_
   try dsimp only [St.put]
   refine aw rfl rfl rfl rfl (bq rfl rfl) ?_
   refine xM rfl rfl rfl rfl rfl ?_
   refine ah rfl rfl rfl rfl (lz rfl rfl) ?_
   refine ah rfl rfl rfl rfl (ce rfl rfl rfl) ?_
   try dsimp only [St.put]
   refine aw rfl rfl rfl rfl (c := val p) (ju (cs := ku p) rfl rfl (show 4 ≤ 7 by decide)) ?_
   refine jf ?_
   try dsimp only [St.put]
   refine g9 rfl rfl rfl rfl (ay rfl rfl rfl (pn (decide (k = 1)) p) ?_)
   refine ed rfl rfl rfl rfl (bp rfl rfl (List.length_map _)) ?_
   refine ed rfl rfl rfl rfl (cg rfl rfl rfl (by omega)) ?_
   refine ed rfl rfl rfl rfl (cz rfl (by constructor)) ?_
   refine je ?_
   dsimp only [St.put]
   refine K18 _ ?_
   refine yR ?_
   refine aa rfl (cg rfl rfl rfl (by omega)) ?_
   refine yM rfl rfl ?_
   refine yN ?_
   dsimp only [St.put]
   rw [show ((sdN p k : Nat) : Int) + ((d8 p (decide (k = 1))).length : Int) = ((sdN p (k + 1) : Nat) : Int) by rw [yx hk]; omega]
   first
   | (have z : 0 ≤ el (decide (k = 1)) x := hyes
      rw [decide_eq_true z, cond_true] at hst
      rw [← hst]
      exact ⟨k + 1, by omega, by omega, ⟨⟨rfl, rfl⟩, zF, zB, zN, zX⟩⟩)
   | (have z : ¬ 0 ≤ el (decide (k = 1)) x := hno
      rw [decide_eq_false z, cond_false, List.append_nil] at hst
      rw [← hst]
      exact ⟨k + 1, by omega, by omega, ⟨⟨rfl, rfl⟩, zF, zB, zN, zX⟩⟩)
  replace hc := of_decide_eq_false hc
  obtain rfl : k = 2 := by omega
  rw [ujp]
  refine x5 8 (lst (da p x)) rfl Wk.tok ?_
  refine dj ?_
  refine K14 _ ?_
  refine yR ?_
  refine aa rfl (dn rfl rfl) ?_
  try dsimp only [St.put]
  refine bg rfl (e8 rfl rfl zG trivial (by first | rfl | assumption)) ?_
  refine yM rfl rfl ?_
  try dsimp only [St.put]
  refine ae rfl (du rfl rfl rfl (by decide) (by decide) zR (by decide) ?_)
  try dsimp only [St.put]
  refine ae rfl (jz ([da p x]) rfl rfl zG zE rfl rfl zA ?_ zA)
  refine aa rfl (dn rfl rfl) ?_
  try dsimp only [St.put]
  refine ae rfl (i7 rfl rfl rfl zG (by constructor) rfl zO ?_)
  refine yN ?_
  dsimp only [St.put]
  refine K9 _ ?_
  refine yR ?_
  refine aa rfl (cg rfl rfl rfl (by omega)) ?_
  refine yM rfl rfl ?_
  refine yN ?_
  dsimp only [St.put]
  have e2 := ulm (da p) hx
  simp only [← e2]
  exact ⟨j + 1, by omega, by omega, ⟨⟨rfl, rfl⟩, zF, zB, zN, zX⟩⟩
 replace hc := of_decide_eq_false hc
 obtain rfl : j = p.pages.length := by omega
 rw [List.take_length]
 refine sn (nx + 1) (cc p + 2 * p.pages.length) (cells (gh p (bv p) (cj p))) zG zW ?_
 refine dj ?_
 refine K5 _ ?_
 refine yS fun _ K23 => ?_
 refine g8 [(0, none), (1, none), (2, none), (3, none), (4, none), (5, none), (6, none)] (fun i => [5].contains i) (fun i => [3, 5].contains i) (fun i => [1, 4, 6].contains i) [nx + 1] (by kernel_rfl) (by kernel_rfl) ?_
 try dsimp only [St.put]
 refine aw rfl rfl rfl rfl (io rfl rfl zG (by simp) (by rfl)) ?_
 refine ah rfl rfl rfl rfl (dn rfl rfl) ?_
 try dsimp only [St.put]
 refine aw rfl rfl rfl rfl (e8 rfl rfl zG (by simp) (by first | rfl | assumption)) ?_
 refine jf ?_
 try dsimp only [St.put]
 refine i9 rfl rfl rfl (ay rfl rfl rfl (yc (cx (cc p) (bv p)) (fun z => decide (z < 0)) _ _ fun z _ => ujd z) ⟨zD, ?_⟩)
 refine ed rfl rfl rfl rfl (eb rfl rfl) ?_
 try dsimp only [St.put]
 refine g9 rfl rfl rfl rfl (cw rfl rfl rfl zG rfl rfl (by rfl) ?_)
 refine ed rfl rfl rfl rfl (cz rfl (by constructor)) ?_
 refine je ?_
 dsimp only [St.put]
 refine K23 _ ?_
 refine aq ?_
 refine ij rfl (jv rfl zG (by rfl) zC rfl) (ef (by constructor)) zN zS ?_ ?_
 ·exact zW
 rw [ul2]; exact zW
theorem uje (m : Nat) (e : Int) (p : af) : C.low m (bif decide (e = 0) then val (gh p (bv p) (cj p)) else .agg [.list [] .nil, .list [] .nil, .list [] .nil]) := by
 cases decide (e = 0)
 ·exact .agg (ci fk (ci fk (ci fk dh)))
 exact ei _ _
theorem ucw (n : Nat) (p : af) (c : C) (e : Int) (h : e = 0 → ez p ∧ c = .elem (ku p)) : fu n fm Tryd.prog 53 [c, .v (.int .i64 e)] (.tup [bif decide (er p e = 0) then val (gh p (bv p) (cj p)) else .agg [.list [] .nil, .list [] .nil, .list [] .nil], .v (.int .i64 (er p e))]) := fun G nx hF hnx => by
 refine iz (G) (nx) Tryd.func53 rfl (.tup (ci (uje _ _ _) (ci .v dh))) zN (fun hlt => zH) ?_
 simp only [Tryd.ntmps53, List.length_cons, List.length_nil, Nat.reduceAdd, Nat.reduceSub]
 refine bu fun hlt => ?_
 dsimp only at hlt
 refine yS fun _ K1 => ?_
 refine yR ?_
 try dsimp only [St.put]
 refine ae rfl (dd rfl ?_)
 refine yA rfl rfl ?_
 refine yN ?_
 dsimp only [St.put]
 refine K1 _ ?_
 refine yS fun _ K2 => ?_
 refine yS fun _ K3 => ?_
 refine yR ?_
 refine yM rfl rfl ?_
 refine aa rfl (ff rfl rfl rfl) ?_
 refine yN ?_
 dsimp only [St.put]
 refine K3 _ ?_
 refine ar rfl (fun hc => ?_) (fun hc => ?_)
 ·have h0 : e ≠ 0 := j8 hc
  have hE : er p e = e := ud6 h0
  refine yS fun _ K4 => ?_
  refine yR ?_
  refine aa rfl (ie rfl rfl) ?_
  refine yM rfl rfl ?_
  try dsimp only [St.put]
  refine ae rfl (cw rfl rfl rfl zG rfl rfl (by rfl) ?_)
  refine yA rfl rfl ?_
  refine yN ?_
  dsimp only [St.put]
  refine K4 _ ?_
  refine aq ?_
  refine ij rfl (jv rfl zG (by rfl) zC rfl) (ef (by constructor)) zN zS ?_ ?_
  ·rw [hE, decide_eq_false h0]; exact zW
  rw [hE]; exact zW
 have h0 : e = 0 := ip hc
 obtain ⟨hok, rfl⟩ := h h0
 subst h0
 refine ax ?_
 refine K2 _ ?_
 refine yS fun _ K5 => ?_
 refine yR ?_
 refine yM rfl rfl ?_
 try dsimp only [St.put]
 refine ae rfl (ec rfl rfl rfl (ukc n p hok) zG (by dsimp only [St.put]; omega) ?_)
 refine yM rfl rfl ?_
 refine yX rfl rfl rfl rfl ?_
 refine yX rfl rfl rfl rfl ?_
 try dsimp only [St.put]
 refine ae rfl (dd rfl ?_)
 try dsimp only [St.put]
 refine ae rfl (cw rfl rfl rfl zG rfl rfl (by rfl) ?_)
 refine yA rfl rfl ?_
 refine yN ?_
 dsimp only [St.put]
 refine K5 _ ?_
 refine yS fun _ K6 => ?_
 refine yS fun _ K7 => ?_
 refine yR ?_
 refine yM rfl rfl ?_
 refine aa rfl (eb rfl rfl) ?_
 refine yN ?_
 dsimp only [St.put]
 refine K7 _ ?_
 refine ar rfl (fun hc => ?_) (fun hc => ?_)
 ·have hTB : ga p = false := by simpa using hc
  have hE : er p 0 = 8 := by rw [p7, hTB]; rfl
  refine yS fun _ K8 => ?_
  refine yR ?_
  refine aa rfl (ie rfl rfl) ?_
  try dsimp only [St.put]
  refine ae rfl (cw rfl rfl rfl zG rfl rfl (by rfl) ?_)
  refine yA rfl rfl ?_
  refine yN ?_
  dsimp only [St.put]
  refine K8 _ ?_
  refine aq ?_
  refine ij rfl (jv rfl zG (by rfl) zC rfl) (ef (by constructor)) zN zS ?_ ?_
  ·rw [hE]; exact zW
  rw [hE]; exact zW
 have hTB : ga p = true := by simpa using hc
 have hE : er p 0 = 0 := by rw [p7, hTB]; rfl
 refine ax ?_
 refine K6 _ ?_
 refine yS fun _ K9 => ?_
 refine yR ?_
 try dsimp only [St.put]
 refine bg rfl (io rfl rfl zG trivial (by rfl)) ?_
 try dsimp only [St.put]
 refine ae rfl (cw rfl rfl rfl zG rfl rfl (by rfl) ?_)
 refine yA rfl rfl ?_
 refine yN ?_
 dsimp only [St.put]
 refine K9 _ ?_
 refine aq ?_
 refine ij rfl (jv rfl zG (by rfl) zC rfl) (ef (by constructor)) zN zS ?_ ?_
 ·rw [hE]; exact zW
 rw [hE]; exact zW
end Go.Proofs.YtbbdginipiljdaaDoor
namespace Go.AB
open Go Go.RowKit
open Go.AB.Enc (cells)
open Go.PB (av ai PlaceD az bf ba bl am af co bj dc dg)
/-- what may remain ahead of a page, by the worst truth -/
noncomputable def rmR (p : af) (i : Nat) : Nat → Int := ((bi p).room (bv p) (cj p) i).1
noncomputable def rmC (p : af) (i : Nat) : Nat → Int := ((bi p).room (bv p) (cj p) i).2
theorem ujb (p : af) (i : Nat) : rmR p (i + 1) = (bi p).lessR (rmR p i) i (jo p i) := rfl
theorem ujc (p : af) (i : Nat) : rmC p (i + 1) = eo (rmC p i) i := rfl
theorem uba {p : af} (h : ez p) (ht : ga p = true) {i : Nat} (hi : i < p.pages.length) : (bi p).Pick (rmR p i) (rmC p i) i ((bi p).pick (rmR p i) (rmC p i) i) :=
 Net.worst_pick (w8 h) (uhw ht) (fun j _ => uft h j) hi
theorem ubb (p : af) (i : Nat) : jo p i = (bi p).pick (rmR p i) (rmC p i) i := rfl
theorem ucb {p : af} (h : ez p) (ht : ga p = true) : ∀ {i : Nat}, i ≤ p.pages.length → Bd p (rmR p i) (rmC p i)
 | 0, _ => ra h
 | i + 1, hi => by
  have hp := uba h ht (i := i) (by omega)
  rw [ujb, ujc, ubb]
  exact ua0 (ucb h ht (by omega)) hp.nn hp.le
theorem uog {p : af} {R C : Nat → Int} (hB : Bd p R C) (j : Nat) : (bi p).alone R C j ≤ 1000000 := Int.le_trans (Net.le_alone.1 (Int.le_refl _)).1 (hB.c j).2
end Go.AB
namespace Go.Proofs.YtbbdginipiljdaaDoor
set_option maxRecDepth 10000
open Go.RowKit Go.AB
open Go.AB.Enc (cells)
open Go.PB (av ai PlaceD az bf ba bl am af co bj dc dg)
end Go.Proofs.YtbbdginipiljdaaDoor
