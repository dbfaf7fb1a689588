/-
  What the walks through the program rest on: values, states, steps, calls (UaAny, AbNamedY, UbAdd, QdRef, QeRef, KxBefore, QfRef, QgRef, AbFact, RdOpen, QhRef, QiRef, QjRef, QkRef, PmMore, QlPlain, QmRef, QnRef, QrRef).
-/
import Derived.Test.YtgffhbbcpgdjjaaDoorPartC
import Derived.Test.YtgffhbbcpgdjjaaDoorPartB
import Derived.Test.YtgffhbbcpgdjjaaDoorPartA
namespace Go.AB
open Go Go.RowKit
theorem ua7 (c : C) : ∀ r ∈ [[c]], r.length = 1 := fun r hr => by rw [List.mem_singleton] at hr; subst hr; rfl
theorem zg {al : List (List C)} {c : C} {e : TypeId} {sz : Nat} : GObj.tip (al.length + [[c]].length) e sz = .tip (al ++ [[c]]).length e sz := by rw [List.length_append]
end Go.AB
namespace Go.Proofs.YtgffhbbcpgdjjaaDoor
set_option maxRecDepth 10000
open Go Go.RowKit Go.AB
open Go.AB.Enc (cells)
open Go.PB (PlaceD)
set_option maxHeartbeats 1000000 in
theorem vz (ws : List Int) (al bo : List (List C)) (hra : ∀ r ∈ al, r.length = 1) (hrb : ∀ r ∈ bo, r.length = 1) (w : Int) (c1 c2 : C) (hr1 : j9 [(0, c1)] = some [[c1]]) (hr2 : j9 [(0, c2)] = some [[c2]]) (nB a1 a2 a3 : Nat) {ob : GObj} {ol : List Oper} {K : St → Prop} {late : Nat → Bool} (st0 : St) (hlen : ol.length = 33) (hf : qo ol = true) (hgd : (ol.all fun o => o.guard.isNone) = true)
  (hdp : (kj ol 9 8 && kj ol 16 15 && kj ol 16 9 && kj ol 23 22 && kj ol 23 16 && (List.range 9).all fun i => kj ol (24 + i) 23) = true)
  (q8 : (ol[8]?).map (fun o => (o.op, o.dst)) = some (.buildSlice 57 1 #[(0, .tmp 108)], some 109)) (q9 : (ol[9]?).map (fun o => (o.op, o.dst)) = some (.call { callee := .builtin .append, args := #[.tmp 107, .tmp 109], argTypes := #[57, 57] }, some 110))
  (q15 : (ol[15]?).map (fun o => (o.op, o.dst)) = some (.buildSlice 52 1 #[(0, .tmp 115)], some 116)) (q16 : (ol[16]?).map (fun o => (o.op, o.dst)) = some (.call { callee := .builtin .append, args := #[.tmp 114, .tmp 116], argTypes := #[52, 52] }, some 117))
  (q22 : (ol[22]?).map (fun o => (o.op, o.dst)) = some (.buildSlice 52 1 #[(0, .tmp 122)], some 123)) (q23 : (ol[23]?).map (fun o => (o.op, o.dst)) = some (.call { callee := .builtin .append, args := #[.tmp 121, .tmp 123], argTypes := #[52, 52] }, some 124))
  (hn : st0.n = 131) (h107 : bw st0.l st0.r 107 = .list (ws.map cells) (.tip a1)) (h108 : bw st0.l st0.r 108 = .v (.int .i64 w)) (h114 : bw st0.l st0.r 114 = .list al (.tip a2)) (h115 : bw st0.l st0.r 115 = c1) (h121 : bw st0.l st0.r 121 = .list bo (.tip a3)) (h122 : bw st0.l st0.r 122 = c2)
  (hB : st0.G nB = some ob) (hG1 : st0.G a1 = some (.tip ws.length 3 1)) (hG2 : st0.G a2 = some (.tip al.length 36 1)) (hG3 : st0.G a3 = some (.tip bo.length 36 1))
  (d1 : nB ≠ a1) (d2 : nB ≠ a2) (d3 : nB ≠ a3) (d4 : a1 ≠ a2) (d5 : a1 ≠ a3) (d6 : a2 ≠ a3) (lw : ws.length ≤ 100) (la : al.length ≤ 100) (lb : bo.length ≤ 100)
  (hK : ju Tryd.prog ol K [nB] late false 9 (adL true true true true true true) { st0 with r := (124, .list (bo ++ [[c2]]) (.tip a3)) :: (123, .list [[c2]] .none) :: (117, .list (al ++ [[c1]]) (.tip a2)) :: (116, .list [[c1]] .none) :: (110, .list ((ws ++ [w]).map cells) (.tip a1)) :: (109, .list [[.v (.int .i64 w)]] .none) :: st0.r, G := ai (ai (ai st0.G a1 (.tip (ws ++ [w]).length 3 1)) a2 (.tip (al ++ [[c1]]).length 36 1)) a3 (.tip (bo ++ [[c2]]).length 36 1) }) :
  ju Tryd.prog ol K [nB] late false 15 (adL false false false false false false) st0 := by
 have hop : ∀ {i : Nat} {o : Oper} {q : Op} {d : Option Tmp}, ol[i]? = some o → (ol[i]?).map (fun o => (o.op, o.dst)) = some (q, d) → o.op = q ∧ o.dst = d := fun {i o q d} h k => by
  rw [h] at k
  simp only [Option.map_some, Option.some.injEq, Prod.mk.injEq] at k
  exact k
 simp only [Bool.and_eq_true, List.all_eq_true, List.mem_range] at hdp
 obtain ⟨⟨⟨⟨⟨p1, p2⟩, p3⟩, p4⟩, p5⟩, p6⟩ := hdp
 obtain ⟨G1, hG1'⟩ : ∃ G1, ai st0.G a1 (.tip (ws ++ [w]).length 3 1) = G1 := ⟨_, rfl⟩
 obtain ⟨G2, hG2'⟩ : ∃ G2, ai G1 a2 (.tip (al ++ [[c1]]).length 36 1) = G2 := ⟨_, rfl⟩
 obtain ⟨G3, hG3'⟩ : ∃ G3, ai G2 a3 (.tip (bo ++ [[c2]]).length 36 1) = G3 := ⟨_, rfl⟩
 rw [hG1', hG2', hG3'] at hK
 have k1 : G1 a2 = some (.tip al.length 36 1) := by rw [← hG1', cm d4.symm]; exact hG2
 have k2 : G2 a3 = some (.tip bo.length 36 1) := by rw [← hG2', cm d6.symm, ← hG1', cm d5.symm]; exact hG3
 have m1 : G1 nB = some ob := by rw [← hG1', cm d1]; exact hB
 have m2 : G2 nB = some ob := by rw [← hG2', cm d2]; exact m1
 have m3 : G3 nB = some ob := by rw [← hG3', cm d3]; exact m2
 have mB : ∀ b9 b16 b23, adG st0.G G1 G2 G3 b9 b16 b23 nB = some ob := fun b9 b16 b23 => by
  cases b23 <;> cases b16 <;> cases b9 <;> assumption
 refine udg (fun l st => ∃ b8 b9 b15 b16 b22 b23, l = adL b8 b9 b15 b16 b22 b23 ∧ AdI (bw st0.l st0.r) (.list [[.v (.int .i64 w)]] .none) (.list ((ws ++ [w]).map cells) (.tip a1)) (.list [[c1]] .none) (.list (al ++ [[c1]]) (.tip a2)) (.list [[c2]] .none) (.list (bo ++ [[c2]]) (.tip a3)) st0.G G1 G2 G3 131 st0.df st0.nx b8 b9 b15 b16 b22 b23 st) (fun l => (l[23]?).getD false) hf ?_ ?_ ?_ ?_ 15 _ st0 ?_ rfl
 ·rintro l st ⟨b8, b9, b15, b16, b22, b23, rfl, h⟩
  rw [hlen]; rfl
 ·rintro l st ⟨b8, b9, b15, b16, b22, b23, rfl, h⟩ hall
  rw [hlen] at hall
  have := hall 23 (by omega)
  show ((adL b8 b9 b15 b16 b22 b23)[23]?).getD false = true
  rw [this]; rfl
 ·rintro l st i o ⟨b8, b9, b15, b16, b22, b23, rfl, h⟩ hst hi hoff hdeps
  have hb23 : b23 = false := hst
  subst hb23
  have hlt := (List.getElem?_eq_some_iff.1 hi).1
  rw [hlen] at hlt
  have hgo : o.guard = none := by
   have := List.all_eq_true.1 hgd o (List.mem_of_getElem? hi)
   simpa using this
  have hsB := h.G ▸ mB b9 b16 false
  have hcase : (i = 8 ∨ i = 9 ∨ i = 15 ∨ i = 16 ∨ i = 22 ∨ i = 23) ∨ 24 ≤ i ∨ i = 0 ∨ i = 1 ∨ i = 2 ∨ i = 3 ∨ i = 4 ∨ i = 5 ∨ i = 6 ∨ i = 7 ∨ i = 10 ∨ i = 11 ∨ i = 12 ∨ i = 13 ∨ i = 14 ∨ i = 17 ∨ i = 18 ∨ i = 19 ∨ i = 20 ∨ i = 21 := by omega
  rcases hcase with (rfl | rfl | rfl | rfl | rfl | rfl) | h24 | rfl | rfl | rfl | rfl | rfl | rfl | rfl | rfl | rfl | rfl | rfl | rfl | rfl | rfl | rfl | rfl | rfl | rfl
  ·obtain ⟨e1, e2⟩ := hop hi q8
   obtain rfl : b8 = false := Option.some.inj hoff
   refine ⟨li (by rw [e1]; rfl) hgo, ef (rows := [[.v (.int .i64 w)]]) (parts := [(0, .tmp 108)]) e1 rfl ?_ (by decide) (by decide) (by simp) (by decide) ?_⟩
   ·show j9 [(0, st.at 108)] = _
    rw [ja (c := .v (.int .i64 w)) h.n rfl (by rw [h.A]; cases b9 <;> cases b15 <;> cases b16 <;> cases b22 <;> exact h108)]; rfl
   ·rw [e2]
    exact ⟨k7 hsB hsB, true, b9, b15, b16, b22, false, rfl, h.step8 (ox h.e9 rfl) (ox (fun e => h.e9 (h.e16 e).2) rfl) rfl⟩
  ·obtain ⟨e1, e2⟩ := hop hi q9
   obtain rfl : b9 = false := Option.some.inj hoff
   obtain rfl : b8 = true := Option.some.inj (hdeps 8 (ll p1 hi))
   have hk16 : b16 = false := ox (fun e => (h.e16 e).2) rfl
   subst hk16
   have hG := h.G
   refine ⟨li (by rw [e1]; rfl) hgo, ma [w] e1 (ja h.n rfl (by rw [h.A]; cases b15 <;> cases b22 <;> exact h107)) (by rw [hG]; exact hG1) rfl (ja (c := .list [[.v (.int .i64 w)]] .none) h.n rfl (by rw [h.A]; rfl)) rfl (by simp only [List.length_cons, List.length_nil]; omega) ?_ (by simp only [List.length_cons, List.length_nil]; omega)⟩
   rw [e2]
   have e3 : ai st.G a1 (.tip (ws ++ [w]).length 3 1) = G1 := by rw [hG]; exact hG1'
   refine ⟨k7 hsB (by show ai st.G a1 _ nB = _; rw [cm d1]; exact hsB), true, true, b15, false, b22, false, rfl, ?_⟩
   exact (h.step9 rfl rfl).cong e3
  ·obtain ⟨e1, e2⟩ := hop hi q15
   obtain rfl : b15 = false := Option.some.inj hoff
   refine ⟨li (by rw [e1]; rfl) hgo, ef (rows := [[c1]]) (parts := [(0, .tmp 115)]) e1 rfl ?_ (by decide) (by decide) (by simp) (by decide) ?_⟩
   ·show j9 [(0, st.at 115)] = _
    rw [ja (c := c1) h.n rfl (by rw [h.A]; cases b8 <;> cases b9 <;> cases b16 <;> cases b22 <;> exact h115)]; exact hr1
   ·rw [e2]
    exact ⟨k7 hsB hsB, b8, b9, true, b16, b22, false, rfl, h.step15 (ox (fun e => (h.e16 e).1) rfl) rfl⟩
  ·obtain ⟨e1, e2⟩ := hop hi q16
   obtain rfl : b16 = false := Option.some.inj hoff
   obtain rfl : b15 = true := Option.some.inj (hdeps 15 (ll p2 hi))
   obtain rfl : b9 = true := Option.some.inj (hdeps 9 (ll p3 hi))
   obtain rfl : b8 = true := h.e9 rfl
   have hG := h.G
   refine ⟨li (by rw [e1]; rfl) hgo, yf (ys := [[c1]]) e1 (ja h.n rfl (by rw [h.A]; cases b22 <;> exact h114)) (by rw [hG]; exact k1) (ja (c := .list [[c1]] .none) h.n rfl (by rw [h.A]; rfl)) hra (ua7 _) (by simp only [List.length_cons, List.length_nil]; omega) (by simp only [List.length_cons, List.length_nil]; omega) ?_⟩
   rw [e2, zg]
   have e3 : ai st.G a2 (.tip (al ++ [[c1]]).length 36 1) = G2 := by rw [hG]; exact hG2'
   refine ⟨k7 hsB (by show ai st.G a2 _ nB = _; rw [cm d2]; exact hsB), true, true, true, true, b22, false, rfl, ?_⟩
   exact (h.step16 rfl).cong e3
  ·obtain ⟨e1, e2⟩ := hop hi q22
   obtain rfl : b22 = false := Option.some.inj hoff
   refine ⟨li (by rw [e1]; rfl) hgo, ef (rows := [[c2]]) (parts := [(0, .tmp 122)]) e1 rfl ?_ (by decide) (by decide) (by simp) (by decide) ?_⟩
   ·show j9 [(0, st.at 122)] = _
    rw [ja (c := c2) h.n rfl (by rw [h.A]; cases b8 <;> cases b9 <;> cases b15 <;> cases b16 <;> exact h122)]; exact hr2
   ·rw [e2]
    exact ⟨k7 hsB hsB, b8, b9, b15, b16, true, false, rfl, h.step22 rfl⟩
  ·obtain ⟨e1, e2⟩ := hop hi q23
   obtain rfl : b22 = true := Option.some.inj (hdeps 22 (ll p4 hi))
   obtain rfl : b16 = true := Option.some.inj (hdeps 16 (ll p5 hi))
   obtain rfl : b15 = true := (h.e16 rfl).1
   obtain rfl : b9 = true := (h.e16 rfl).2
   obtain rfl : b8 = true := h.e9 rfl
   have hG := h.G
   refine ⟨li (by rw [e1]; rfl) hgo, yf (ys := [[c2]]) e1 (ja h.n rfl (by rw [h.A]; exact h121)) (by rw [hG]; exact k2) (ja (c := .list [[c2]] .none) h.n rfl (by rw [h.A]; rfl)) hrb (ua7 _) (by simp only [List.length_cons, List.length_nil]; omega) (by simp only [List.length_cons, List.length_nil]; omega) ?_⟩
   rw [e2, zg]
   have e3 : ai st.G a3 (.tip (bo ++ [[c2]]).length 36 1) = G3 := by rw [hG]; exact hG3'
   refine ⟨k7 hsB (by show ai st.G a3 _ nB = _; rw [cm d3]; exact hsB), true, true, true, true, true, true, rfl, ?_⟩
   exact (h.step23).cong e3
  ·have hm := hdeps 23 (ll (i := i) (by have := p6 (i - 24) (by omega); rwa [show 24 + (i - 24) = i by omega] at this) hi)
   cases hm
  all_goals (cases hoff)
 ·rintro l st ⟨b8, b9, b15, b16, b22, b23, rfl, h⟩ hst
  obtain rfl : b23 = true := hst
  obtain ⟨rfl, rfl⟩ := h.e23 rfl
  obtain ⟨rfl, rfl⟩ := h.e16 rfl
  obtain rfl := h.e9 rfl
  refine udf ?_ ?_ (fun i => ?_) ?_ ?_ hK
  ·exact h.n.trans hn.symm
  ·exact h.df
  rotate_left
  ·exact h.G
  ·exact h.nx
  rw [h.A i]
  unfold adS
  show (bif Nat.beq 109 i then _ else bif Nat.beq 110 i then _ else bif Nat.beq 116 i then _ else bif Nat.beq 117 i then _ else bif Nat.beq 123 i then _ else bif Nat.beq 124 i then _ else bw st0.l st0.r i) = (bif Nat.beq 124 i then _ else bif Nat.beq 123 i then _ else bif Nat.beq 117 i then _ else bif Nat.beq 116 i then _ else bif Nat.beq 110 i then _ else bif Nat.beq 109 i then _ else bw st0.l st0.r i)
  cases e1 : Nat.beq 109 i
  ·cases e2 : Nat.beq 110 i
   ·cases e3 : Nat.beq 116 i
    ·cases e4 : Nat.beq 117 i
     ·cases e5 : Nat.beq 123 i
      ·cases e6 : Nat.beq 124 i <;> rfl
      ·rw [gd e5 (b := 124) rfl]; rfl
     ·rw [gd e4 (b := 124) rfl, gd e4 (b := 123) rfl]; rfl
    ·rw [gd e3 (b := 124) rfl, gd e3 (b := 123) rfl, gd e3 (b := 117) rfl]; rfl
   ·rw [gd e2 (b := 124) rfl, gd e2 (b := 123) rfl, gd e2 (b := 117) rfl, gd e2 (b := 116) rfl]; rfl
  ·rw [gd e1 (b := 124) rfl, gd e1 (b := 123) rfl, gd e1 (b := 117) rfl, gd e1 (b := 116) rfl, gd e1 (b := 110) rfl]; rfl
 ·exact ⟨false, false, false, false, false, false, rfl, { n := hn, df := rfl, nx := rfl, A := fun _ => rfl, G := rfl, e9 := (fun e => nomatch e), e16 := (fun e => nomatch e), e23 := (fun e => nomatch e) }⟩
end Go.Proofs.YtgffhbbcpgdjjaaDoor
namespace Go.AB
open Go Go.RowKit
section
theorem rz {Y : Type} {P : Program} {f : FuncId} {fn : Func} {c : Code} {args : List C} {G : Nat → Option GObj} {nx : Nat} (r : Y → C) (g : Y → Nat → Option GObj) (m : Y → Nat) (S : Y → Prop) (hf : P.funcs[f]? = some fn) (hb : fn.body = some c) (hl : ∀ y, S y → (r y).low (m y)) (hm : ∀ y, S y → nx ≤ m y) (hg : (∀ n o, G n = some o → n < nx) → ∀ y, S y → ∀ n o, g y n = some o → G n = some o ∨ (n < m y ∧ o.low (m y)))
  (h : AW none P c (fun e st => ∃ y, S y ∧ n7 P fn (r y) (g y) (m y) e st) { n := args.length + (fn.ntmps - args.length), l := args, r := [], G := G, nx := nx }) : PC P f args G nx fun r' G' nx' => ∃ y, S y ∧ r' = r y ∧ G' = g y ∧ nx' = m y := by
 intro E w vs hr hg0
 have key := w6 (K := fun r' G' nx' => ∃ y, S y ∧ r' = r y ∧ m y ≤ nx' ∧ ∀ n o, g y n = some o → G' n = some o) hf hb (AW.mono h fun e st hq => by
  obtain ⟨y, hs, hq⟩ := hq
  cases e with
  | normal => exact ⟨r y, hq.1, y, hs, rfl, hq.2.1, hq.2.2⟩
  | ret => exact ⟨r y, hq.1, y, hs, rfl, hq.2.1, hq.2.2⟩
  | _ => exact hq)
 refine (key E w vs hr hg0).mono ?_
 rintro e w' ⟨r', v, E', G', nx', e1, e2, e3, e4, y, hS, rfl, e5, e6⟩
 have hnx := hg0.nx
 have hm0 := hm y hS
 refine ⟨r y, v, E'.drop (m y), g y, m y, e1, e2.drop (by omega), e3.drop (hl y hS), ?_, y, hS, rfl, rfl, rfl⟩
 refine (e4.weak e6).drop fun n o ho => ?_
 rcases hg (fun n o ho => (hg0.lowG ho).1) y hS n o ho with h1 | h1
 ·have := hg0.lowG h1
  exact ⟨by omega, GObj.low_mono this.2 hm0⟩
 ·exact h1
theorem qx {Y : Type} {P : Program} {o : Oper} {st : St} {K : St → Prop} {f : FuncId} [Fun P f] {fv : Operand} {args : List Operand} {ats : Array TypeId} {caps as0 : List C} {r : Y → C} {g : Y → Nat → Option GObj} {m : Y → Nat} {S : Y → Prop} (ho : o.op = .call { callee := .value fv, args := args.toArray, argTypes := ats }) (hf : evC st fv = .fn (.func f) caps) (has : args.map (evC st) ++ caps = as0)
  (hp : PC P f as0 st.G st.nx fun r' G' nx' => ∃ y, S y ∧ r' = r y ∧ G' = g y ∧ nx' = m y) (h : ∀ y, S y → K (St.put { st with G := g y, nx := m y } o.dst (r y))) : EStep P o st K :=
 vh ho hf has (hp.mono fun r' G' nx' ⟨y, hs, e1, e2, e3⟩ => by subst e1; subst e2; subst e3; exact h y hs)
end
end Go.AB
namespace Go.AB
open Go Go.RowKit
open Go.AB.Enc (cells)
theorem p9 {rows : List (List C)} {n m : Nat} (h : ∀ r ∈ rows, ∀ c ∈ r, C.low m c) (hn : n < m) : C.low m (.list rows (.tip n)) := .list h fun k hk => by simp only [Tok.tip.injEq] at hk; omega
theorem t8 {rows : List (List C)} {c : C} {m : Nat} (h : ∀ r ∈ rows, ∀ c ∈ r, C.low m c) (hc : C.low m c) : ∀ r ∈ rows ++ [[c]], ∀ c ∈ r, C.low m c := fun r hr d hd => by
 rcases List.mem_append.1 hr with hr | hr
 ·exact h r hr d hd
 rw [List.mem_singleton] at hr; subst hr
 rw [List.mem_singleton] at hd; subst hd; exact hc
theorem tl {g H : Nat → Option GObj} {k n : Nat} {ob o : GObj} (h : ai g k ob n = some o) (h1 : H k = some ob) (h2 : n ≠ k → g n = some o → H n = some o) : H n = some o := by
 by_cases e : n = k
 ·subst e
  rw [i0] at h
  rw [h1]; exact h
 rw [cm e] at h
 exact h2 e h
theorem zz {rows : List (List C)} {k m : Nat} (h : ∀ r ∈ rows, ∀ c ∈ r, C.low k c) (hk : k ≤ m) : ∀ r ∈ rows, ∀ c ∈ r, C.low m c := fun r hr c hc => (h r hr c hc).mono hk
end Go.AB
namespace Go.Proofs.YtgffhbbcpgdjjaaDoor
set_option maxRecDepth 10000
open Go Go.RowKit Go.AB
open Go.AB.Enc (cells)
open Go.PB (ay aj PlaceD bh bj bi bx aq am cv co dq dp)
theorem uik (l : List PlaceD) (hne : l ≠ []) (hl : l.length ≤ 1000) (n ver wv : Nat) (G : Nat → Option GObj) (nx : Nat) (hN : G n = some (.arr ver wv 54 3 l.length (ci l))) : PC Tryd.prog 91 [.own n ver l.length] G nx fun r G' nx' => r = .own nx 0 l.length ∧ G' = ai G nx (.arr 0 0 54 3 l.length (ci l)) ∧ nx' = nx + 1 := by
 refine kp (ai G nx (.arr 0 0 54 3 l.length (ci l))) (nx + 1) Tryd.func91 rfl (.own (Nat.lt_succ_self _)) zN (fun hlt => (by (repeat' (refine et ?_ (by (try dsimp only); omega) ?_)); all_goals (first | exact fq zS | (repeat' (first | exact trivial | refine ⟨?_, ?_⟩ | exact .v | exact .any | refine .elem ?_ | exact ar _ _ | exact c6 _ _ | exact cw _ _ | exact cy _ (by (try dsimp only); omega) | exact .box (by (try dsimp only); omega) | exact c5 | exact cg | exact cc _ | refine c4 ?_ ?_ | exact .arr (by (try dsimp only); omega) | exact .own (by (try dsimp only); omega) | exact .map (by (try dsimp only); omega) | exact cc _ | refine bk ?_ ?_ | exact ar _ _))))) ?_
 simp only [Tryd.ntmps91, List.length_cons, List.length_nil, Nat.reduceAdd, Nat.reduceSub]
 refine ct fun hlt => ?_
 dsimp only at hlt
 refine yS fun _ K1 => ?_
 refine yR ?_
 refine yA rfl rfl ?_
 refine yN ?_
 dsimp only [St.put]
 refine K1 _ ?_
 refine yS fun _ K2 => ?_
 refine yS fun _ K3 => ?_
 refine yR ?_
 refine yM rfl rfl ?_
 refine af rfl (uh6 (fun e => hne (List.eq_nil_of_length_eq_zero e)) rfl rfl hN ?_)
 refine yN ?_
 dsimp only [St.put]
 refine K3 _ ?_
 refine ak rfl (fun hc => ?_) (fun hc => ?_)
 ·try replace hc := of_decide_eq_true hc
  refine yS fun _ K4 => ?_
  refine yR ?_
  refine yA rfl rfl ?_
  refine yN ?_
  dsimp only [St.put]
  refine K4 _ ?_
  refine ax ?_
  exact absurd hc (by decide)
 try replace hc := of_decide_eq_false hc
 refine av ?_
 refine K2 _ ?_
 refine yS fun _ K5 => ?_
 refine yR ?_
 try dsimp only [St.put]
 refine af rfl (vj rfl ?_)
 refine yM rfl rfl ?_
 try dsimp only [St.put]
 refine af rfl (uic l rfl rfl (.inl rfl) rfl hN rfl rfl hne (by decide) (by omega) (by omega) ?_)
 refine yA rfl rfl ?_
 refine yN ?_
 dsimp only [St.put]
 refine K5 _ ?_
 refine ax ?_
 refine bp rfl (by constructor) zN zS ?_
 rfl
set_option maxHeartbeats 4000000 in
theorem ujd (p : am) (last : Int) (x : aq) (ws : List Int) (al bo : List (List C)) (hra : ∀ r ∈ al, r.length = 1) (hrb : ∀ r ∈ bo, r.length = 1) (nB a1 a2 a3 V : Nat) (ht : dl p.text = true) (hp : mh p last x) (hw : ws.length ≤ 100) (ha : al.length ≤ 100) (hb : bo.length ≤ 100) (G : Nat → Option GObj) (nx : Nat) (hla : ∀ r ∈ al, ∀ c ∈ r, C.low nx c) (hlb : ∀ r ∈ bo, ∀ c ∈ r, C.low nx c) (hN : nB < nx) (h1 : a1 < nx) (h2 : a2 < nx) (h3 : a3 < nx) (d1 : nB ≠ a1) (d2 : nB ≠ a2) (d3 : nB ≠ a3) (d4 : a1 ≠ a2) (d5 : a1 ≠ a3) (d6 : a2 ≠ a3)
  (hGB : G nB = some (((.box (V) [lst p.text, lst p.firsts, lst p.seconds, lst p.pages, .list ((ws).map cells) (.tip a1), .list (al) (.tip a2), .list (bo) (.tip a3)])))) (hG1 : G a1 = some (.tip ws.length 3 1)) (hG2 : G a2 = some (.tip al.length 36 1)) (hG3 : G a3 = some (.tip bo.length 36 1)) :
  PC Tryd.prog 70 [.box nB 0 0, val x, lst (j6 p.text p.text.length)] G nx fun r' G' nx' => r' = .tup [] ∧ G' = ai (ai (ai (ai G nB (((.box ((V + 1 + 1 + 1)) [lst p.text, lst p.firsts, lst p.seconds, lst p.pages, .list (((ws ++ [(dw p.text x : Int)])).map cells) (.tip a1), .list ((al ++ [[lst (ca p.text x)]])) (.tip a2), .list ((bo ++ [[lst (bf p.text x)]])) (.tip a3)])))) a1 (.tip (ws ++ [(dw p.text x : Int)]).length 3 1)) a2 (.tip (al ++ [[lst (ca p.text x)]]).length 36 1)) a3 (.tip (bo ++ [[lst (bf p.text x)]]).length 36 1) ∧ nx' = nx := by
 refine kp (ai (ai (ai (ai G nB (((.box ((V + 1 + 1 + 1)) [lst p.text, lst p.firsts, lst p.seconds, lst p.pages, .list (((ws ++ [(dw p.text x : Int)])).map cells) (.tip a1), .list ((al ++ [[lst (ca p.text x)]])) (.tip a2), .list ((bo ++ [[lst (bf p.text x)]])) (.tip a3)])))) a1 (.tip (ws ++ [(dw p.text x : Int)]).length 3 1)) a2 (.tip (al ++ [[lst (ca p.text x)]]).length 36 1)) a3 (.tip (bo ++ [[lst (bf p.text x)]]).length 36 1)) (nx) Tryd.func70 rfl (.tup cg) zN (fun hlt => (by (repeat' (refine et ?_ (by (try dsimp only); omega) ?_)); all_goals (first | exact fq zS | (repeat' (first | exact trivial | refine ⟨?_, ?_⟩ | exact .v | exact .any | refine .elem ?_ | exact ar _ _ | exact c6 _ _ | exact cw _ _ | exact cy _ (by (try dsimp only); omega) | exact .box (by (try dsimp only); omega) | exact c5 | exact cg | exact p9 (t8 hla (ar _ _)) (by omega) | exact p9 (t8 hlb (ar _ _)) (by omega) | refine c4 ?_ ?_ | exact .arr (by (try dsimp only); omega) | exact .own (by (try dsimp only); omega) | exact .map (by (try dsimp only); omega) | exact cc _ | refine bk ?_ ?_ | exact ar _ _))))) ?_
 simp only [Tryd.ntmps70, List.length_cons, List.length_nil, Nat.reduceAdd, Nat.reduceSub]
 refine ct fun hlt => ?_
 dsimp only at hlt
 obtain ⟨hl1, hl2, hl3⟩ := jo ht
 have hal := km ht
 have hnd1 := pe (o5 hp.found)
 have hnd2 := pe (o5 hp.well)
 have hfl := io hp.found
 have hwl := io hp.well
 have hbl := rb p.text x
 have hgl := pp p.text x
 have hwx := v8 p.text x
 have hwt : ∀ (f : PlaceD → Bool) (l : List PlaceD), (l.filter f).length ≤ l.length := fun f l => List.length_filter_le f l
 have hstl := tn p.text p.text.length
 have hmw : x.well.take x.well.length = x.well := List.take_length
 refine yS fun _ K1 => ?_
 refine yR ?_
 try dsimp only [St.put]
 refine yB rfl rfl rfl ?_
 refine yN ?_
 dsimp only [St.put]
 refine K1 _ ?_
 refine yS fun _ K2 => ?_
 refine yR ?_
 refine yA rfl rfl ?_
 refine yN ?_
 dsimp only [St.put]
 rw [show (0 : Int) = ((dr p.text x (dh (p.text.take 0)) : Nat) : Int) from rfl]
 refine K2 _ ?_
 refine yS fun _ K3 => ?_
 refine yS fun _ K4 => ?_
 refine yR ?_
 refine yM rfl rfl ?_
 refine aa rfl (fb rfl rfl) ?_
 refine aa rfl (dj rfl rfl) ?_
 refine aa rfl (dj rfl rfl) ?_
 refine aa rfl (dj rfl rfl) ?_
 try dsimp only [St.put]
 refine du rfl (gg rfl rfl zG trivial (by first | rfl | assumption)) ?_
 refine aa rfl (bg rfl rfl (List.length_map _)) ?_
 refine yM rfl rfl ?_
 refine yN ?_
 dsimp only [St.put]
 refine K4 _ ?_
 refine az ?_
 refine cj 27 ?_
 refine zQ ?_
 refine c7 (X := Nat) (fun k => k ≤ p.text.length) (fun k => p.text.length - k) (fun k => [(6, .v (.int .i64 ((dr p.text x (dh (p.text.take k)) : Nat) : Int))), (7, .any), (8, .any), (9, .any), (10, .any), (26, .v (.int .i64 (k : Int)))]) (fun k G' => G') 0 rfl ?_ ?_ (fun _ _ h => h) ?_ ?_ ?_
 ·exact Nat.zero_le _
 ·exact zF
 ·rintro k hI
  exact zL
 ·exact fun _ _ _ _ h => .inl h
 rintro k hI
 dsimp only at hI ⊢
 refine yS fun _ K5 => ?_
 refine yR ?_
 refine aa rfl (cn rfl rfl rfl) ?_
 refine yN ?_
 dsimp only [St.put]
 refine K5 _ ?_
 refine yS fun _ K6 => ?_
 refine ak rfl (fun hc => ?_) (fun hc => ?_)
 ·replace hc := of_decide_eq_true hc
  obtain ⟨c, hcx⟩ : ∃ c, p.text[k]? = some c := cx (by omega)
  have hll := (hl3 c (ez hcx)).2.1
  have hwo := (hl3 c (ez hcx)).2.2
  have hst := rr (t := p.text) (k := p.text.length) (i := k) (by omega)
  have hsb := og ht k (by omega)
  refine av ?_
  refine K6 _ ?_
  refine yS fun _ K7 => ?_
  refine az ?_
  refine yS fun _ K8 => ?_
  refine yR ?_
  refine yM rfl rfl ?_
  refine aa rfl (bl rfl rfl rfl rfl (bn (by assumption)) (Enc.len _)) ?_
  refine yE rfl rfl rfl ?_
  try dsimp only [St.put]
  refine af rfl (eh rfl ?_)
  refine yA rfl rfl ?_
  try dsimp only [St.put]
  refine af rfl (dt rfl rfl rfl zG rfl rfl (by rfl) ?_)
  refine yN ?_
  dsimp only [St.put]
  refine K8 _ ?_
  refine eo (i := 8) rfl zG zC ?_
  dsimp only
  refine yS fun _ K9 => ?_
  refine yR ?_
  refine yF rfl rfl rfl rfl ?_
  refine yL rfl rfl rfl ?_
  refine aa rfl (bg rfl rfl (List.length_map _)) ?_
  refine yM rfl rfl ?_
  refine yN ?_
  dsimp only [St.put]
  rw [vw p.text k c.lines]
  refine K9 _ ?_
  refine az ?_
  refine cj 35 ?_
  refine zQ ?_
  refine c7 (X := Nat) (fun n => n ≤ c.lines.length) (fun n => c.lines.length - n) (fun n => [(6, .v (.int .i64 ((dr p.text x (ec p.text k c.lines n) : Nat) : Int))), (9, .any), (10, .any), (34, .v (.int .i64 (n : Int)))]) (fun n G' => G') 0 rfl ?_ ?_ (fun _ _ h => h) ?_ ?_ ?_
  ·exact Nat.zero_le _
  ·exact zF
  ·rintro n hI
   exact zL
  ·exact fun _ _ _ _ h => .inl h
  rintro n hJ
  dsimp only at hJ ⊢
  refine yS fun _ K10 => ?_
  refine yR ?_
  refine aa rfl (cn rfl rfl rfl) ?_
  refine yN ?_
  dsimp only [St.put]
  refine K10 _ ?_
  refine yS fun _ K11 => ?_
  refine ak rfl (fun hc => ?_) (fun hc => ?_)
  ·replace hc := of_decide_eq_true hc
   obtain ⟨l, hn⟩ : ∃ l, c.lines[n]? = some l := cx (by omega)
   have hlb := hwo l (ez hn)
   have hqb : dr p.text x (ec p.text k c.lines n) ≤ 600 := by
    have hle := vv ht hcx hn 0
    rw [← vu] at hle
    have := hwt (el p.text x) (ec p.text k c.lines n)
    unfold dr
    omega
   refine av ?_
   refine K11 _ ?_
   refine yS fun _ K12 => ?_
   refine az ?_
   refine yS fun _ K13 => ?_
   refine yR ?_
   refine yM rfl rfl ?_
   refine aa rfl (bl rfl rfl rfl rfl (bn (by assumption)) (Enc.len _)) ?_
   refine yL rfl rfl rfl ?_
   refine yA rfl rfl ?_
   refine yA rfl rfl ?_
   refine yN ?_
   dsimp only [St.put]
   refine K13 _ ?_
   refine yS fun _ K14 => ?_
   refine f4 [(0, none), (1, none), (2, none), (3, none), (4, none), (5, none), (6, none), (7, none), (8, none), (9, none), (10, none), (11, none)] (fun i => [11].contains i) (fun i => [10, 11].contains i) (fun i => [0, 2, 4, 5, 6, 8, 9].contains i) [] (by kernel_rfl) (by kernel_rfl) ?_
   refine ae rfl rfl rfl rfl (cb rfl rfl rfl) ?_
   try dsimp only [St.put]
   refine aw rfl rfl rfl rfl (bv rfl rfl) ?_
   refine ae rfl rfl rfl rfl (cb rfl rfl rfl) ?_
   try dsimp only [St.put]
   refine aw rfl rfl rfl rfl (bv rfl rfl) ?_
   refine xM rfl rfl rfl rfl rfl ?_
   refine xM rfl rfl rfl rfl rfl ?_
   try dsimp only [St.put]
   refine ae rfl rfl rfl rfl (bl rfl rfl rfl rfl (bn (by assumption)) (Enc.len _)) ?_
   try dsimp only [St.put]
   refine aw rfl rfl rfl rfl (bv rfl rfl) ?_
   refine xM rfl rfl rfl rfl rfl ?_
   refine ae rfl rfl rfl rfl (br rfl rfl rfl (by omega)) ?_
   refine ij ?_
   try dsimp only [St.put]
   refine g8 rfl rfl rfl (ef rfl rfl rfl (by decide) (by decide) zR (by decide) ⟨zD, ?_⟩)
   try dsimp only [St.put]
   refine gt rfl rfl rfl rfl (ba rfl rfl rfl (jh _ _ [_]) ?_)
   refine ii ?_
   dsimp only [St.put]
   refine K14 _ ?_
   refine ak rfl (fun hc => ?_) (fun hc => ?_)
   ·have hpg : inB ((fh p.text k : Int) + (n : Int)) x.fr x.to = true := by rw [er] at hc; exact hc
    refine yR ?_
    refine yM rfl rfl ?_
    refine yM rfl rfl ?_
    refine aa rfl (bg rfl rfl (List.length_map _)) ?_
    refine aa rfl (br rfl rfl rfl (by omega)) ?_
    refine yA rfl rfl ?_
    refine yN ?_
    dsimp only [St.put]
    refine K12 _ ?_
    refine yR ?_
    refine aa rfl (br rfl rfl rfl (by omega)) ?_
    refine yM rfl rfl ?_
    refine yN ?_
    dsimp only [St.put]
    have e := pv p.text x (k := k) hn
    first
    | (rw [hpg, cond_true] at e
       rw [show ((dr p.text x (ec p.text k c.lines n) : Nat) : Int) + (l.length : Int) = ((dr p.text x (ec p.text k c.lines (n + 1)) : Nat) : Int) by rw [e]; rfl]
       exact ⟨n + 1, by omega, by omega, ⟨⟨rfl, rfl⟩, zF, zB, zN, zX⟩⟩)
    | (rw [hpn, cond_false] at e
       rw [show dr p.text x (ec p.text k c.lines n) = dr p.text x (ec p.text k c.lines (n + 1)) from e.symm]
       exact ⟨n + 1, by omega, by omega, ⟨⟨rfl, rfl⟩, zF, zB, zN, zX⟩⟩)
   have hpn : inB ((fh p.text k : Int) + (n : Int)) x.fr x.to = false := by rw [er] at hc; exact hc
   refine av ?_
   refine K12 _ ?_
   refine yR ?_
   refine aa rfl (br rfl rfl rfl (by omega)) ?_
   refine yM rfl rfl ?_
   refine yN ?_
   dsimp only [St.put]
   have e := pv p.text x (k := k) hn
   first
   | (rw [hpg, cond_true] at e
      rw [show ((dr p.text x (ec p.text k c.lines n) : Nat) : Int) + (l.length : Int) = ((dr p.text x (ec p.text k c.lines (n + 1)) : Nat) : Int) by rw [e]; rfl]
      exact ⟨n + 1, by omega, by omega, ⟨⟨rfl, rfl⟩, zF, zB, zN, zX⟩⟩)
   | (rw [hpn, cond_false] at e
      rw [show dr p.text x (ec p.text k c.lines n) = dr p.text x (ec p.text k c.lines (n + 1)) from e.symm]
      exact ⟨n + 1, by omega, by omega, ⟨⟨rfl, rfl⟩, zF, zB, zN, zX⟩⟩)
  replace hc := of_decide_eq_false hc
  refine cr ?_
  refine K7 _ ?_
  refine yR ?_
  refine aa rfl (br rfl rfl rfl (by omega)) ?_
  refine yM rfl rfl ?_
  refine yN ?_
  dsimp only [St.put]
  rw [vx (n := n) hcx (by omega)]
  exact ⟨k + 1, by omega, by omega, ⟨⟨rfl, rfl⟩, zF, zB, zN, zX⟩⟩
 replace hc := of_decide_eq_false hc
 obtain rfl : k = p.text.length := by omega
 rw [List.take_length, wc]
 refine cr ?_
 refine K3 _ ?_
 refine yS fun _ K15 => ?_
 refine yR ?_
 try dsimp only [St.put]
 refine af rfl (qv (α := PlaceD) rfl ?_)
 refine yA rfl rfl ?_
 refine yN ?_
 dsimp only [St.put]
 refine K15 _ ?_
 refine yS fun _ K16 => ?_
 refine yS fun _ K17 => ?_
 refine yR ?_
 refine yF rfl rfl rfl rfl ?_
 refine yL rfl rfl rfl ?_
 refine aa rfl (bg rfl rfl (List.length_map _)) ?_
 refine yM rfl rfl ?_
 refine yN ?_
 dsimp only [St.put]
 refine K17 _ ?_
 refine az ?_
 refine cj 62 ?_
 refine zQ ?_
 refine db ((ai G nx (fe Tryd.prog 54 (0) ((fun _ => none))))) zX ?_
 dsimp only
 refine c7 (X := Nat) (fun k => k ≤ x.found.length) (fun k => x.found.length - k) (fun k => [(13, .any), (61, .v (.int .i64 (k : Int)))]) (fun k G' => (ai G nx (fe Tryd.prog 54 (k) ((ed fun q => decide (q ∈ x.found.take k)))))) 0 rfl ?_ ?_ ?_ ?_ ?_ ?_
 ·exact Nat.zero_le _
 ·exact zF
 ·rw [show (ed fun q => decide (q ∈ x.found.take 0)) = fun _ => none from xa]
  exact zX
 ·rintro k hI
  exact (by (try dsimp only); repeat' (first | exact trivial | refine ⟨?_, ?_⟩ | exact .v | exact .any | refine .elem ?_ | exact ar _ _ | exact c6 _ _ | exact cw _ _ | exact cy _ (by (try dsimp only); omega) | exact .box (by (try dsimp only); omega) | exact c5 | exact cg | exact ei (f9 _ _) | refine c4 ?_ ?_ | exact .arr (by (try dsimp only); omega) | exact .own (by (try dsimp only); omega) | exact .map (by (try dsimp only); omega) | exact cc _ | refine bk ?_ ?_ | exact ar _ _))
 ·rintro k hI
  exact (by (repeat' (refine et ?_ (by (try dsimp only); omega) ?_)); all_goals (first | exact fq zS | (repeat' (first | exact trivial | refine ⟨?_, ?_⟩ | exact .v | exact .any | refine .elem ?_ | exact ar _ _ | exact c6 _ _ | exact cw _ _ | exact cy _ (by (try dsimp only); omega) | exact .box (by (try dsimp only); omega) | exact c5 | exact cg | exact ei (f9 _ _) | refine c4 ?_ ?_ | exact .arr (by (try dsimp only); omega) | exact .own (by (try dsimp only); omega) | exact .map (by (try dsimp only); omega) | exact cc _ | refine bk ?_ ?_ | exact ar _ _))))
 rintro k hK
 dsimp only at hK ⊢
 refine yS fun _ K18 => ?_
 refine yR ?_
 refine aa rfl (cn rfl rfl rfl) ?_
 refine yN ?_
 dsimp only [St.put]
 refine K18 _ ?_
 refine yS fun _ K19 => ?_
 refine ak rfl (fun hc => ?_) (fun hc => ?_)
 ·replace hc := of_decide_eq_true hc
  obtain ⟨q, hq⟩ : ∃ q, x.found[k]? = some q := cx (by omega)
  refine av ?_
  refine K19 _ ?_
  refine yS fun _ K20 => ?_
  refine az ?_
  refine yS fun _ K21 => ?_
  refine yR ?_
  refine aa rfl (bl rfl rfl rfl rfl (bn (by assumption)) (Enc.len _)) ?_
  refine yE rfl rfl rfl ?_
  try dsimp only [St.put]
  refine af rfl (eh rfl ?_)
  try dsimp only [St.put]
  refine af rfl (dt rfl rfl rfl zG rfl rfl (by rfl) ?_)
  refine yN ?_
  dsimp only [St.put]
  refine K21 _ ?_
  refine eo (i := 13) rfl zG zC ?_
  dsimp only
  refine yR ?_
  refine yM rfl rfl ?_
  refine yE rfl rfl rfl ?_
  try dsimp only [St.put]
  refine af rfl (lk (q) rfl rfl rfl zG rfl (xb hq) ?_)
  refine yN ?_
  dsimp only [St.put]
  refine K20 _ ?_
  refine yR ?_
  refine aa rfl (br rfl rfl rfl (by omega)) ?_
  refine yM rfl rfl ?_
  refine yN ?_
  dsimp only [St.put]
  exact ⟨k + 1, by omega, by omega, ⟨⟨rfl, rfl⟩, zF, zB, zN, zX⟩⟩
 replace hc := of_decide_eq_false hc
 obtain rfl : k = x.found.length := by omega
 rw [List.take_length, show (fun q => decide (q ∈ x.found)) = dz x.found (x.well.take 0) from funext fun q => (xc x.found q).symm]
 refine cr ?_
 refine K16 _ ?_
 refine yS fun _ K22 => ?_
 by_cases hB : bf p.text x = []
 ·refine yR ?_
  refine yA rfl rfl ?_
  refine yN ?_
  dsimp only [St.put]
  refine K22 _ ?_
  refine yS fun _ K23 => ?_
  refine yS fun _ K24 => ?_
  refine yR ?_
  refine yF rfl rfl rfl rfl ?_
  refine yL rfl rfl rfl ?_
  refine aa rfl (bg rfl rfl (List.length_map _)) ?_
  refine yM rfl rfl ?_
  refine yN ?_
  dsimp only [St.put]
  refine K24 _ ?_
  refine az ?_
  refine cj 72 ?_
  refine zQ ?_
  refine db ((ai G nx (fe Tryd.prog 54 (x.found.length) ((ed (dz x.found (x.well.take 0))))))) zX ?_
  dsimp only
  refine c7 (X := Nat) (fun k => k ≤ x.well.length) (fun k => x.well.length - k) (fun k => [(16, .any), (71, .v (.int .i64 (k : Int)))]) (fun k G' => (ai G nx (fe Tryd.prog 54 ((x.found.length + k)) ((ed (dz x.found (x.well.take k))))))) 0 rfl ?_ ?_ ?_ ?_ ?_ ?_
  ·exact Nat.zero_le _
  ·exact zF
  ·exact zX
  ·rintro k hI
   exact (by (try dsimp only); repeat' (first | exact trivial | refine ⟨?_, ?_⟩ | exact .v | exact .any | refine .elem ?_ | exact ar _ _ | exact c6 _ _ | exact cw _ _ | exact cy _ (by (try dsimp only); omega) | exact .box (by (try dsimp only); omega) | exact c5 | exact cg | exact ei (f9 _ _) | refine c4 ?_ ?_ | exact .arr (by (try dsimp only); omega) | exact .own (by (try dsimp only); omega) | exact .map (by (try dsimp only); omega) | exact cc _ | refine bk ?_ ?_ | exact ar _ _))
  ·rintro k hI
   exact (by (repeat' (refine et ?_ (by (try dsimp only); omega) ?_)); all_goals (first | exact fq zS | (repeat' (first | exact trivial | refine ⟨?_, ?_⟩ | exact .v | exact .any | refine .elem ?_ | exact ar _ _ | exact c6 _ _ | exact cw _ _ | exact cy _ (by (try dsimp only); omega) | exact .box (by (try dsimp only); omega) | exact c5 | exact cg | exact ei (f9 _ _) | refine c4 ?_ ?_ | exact .arr (by (try dsimp only); omega) | exact .own (by (try dsimp only); omega) | exact .map (by (try dsimp only); omega) | exact cc _ | refine bk ?_ ?_ | exact ar _ _))))
  rintro k hK
  dsimp only at hK ⊢
  refine yS fun _ K25 => ?_
  refine yR ?_
  refine aa rfl (cn rfl rfl rfl) ?_
  refine yN ?_
  dsimp only [St.put]
  refine K25 _ ?_
  refine yS fun _ K26 => ?_
  refine ak rfl (fun hc => ?_) (fun hc => ?_)
  ·replace hc := of_decide_eq_true hc
   obtain ⟨q, hq⟩ : ∃ q, x.well[k]? = some q := cx (by omega)
   have hbt := ra x.found x.well k
   refine av ?_
   refine K26 _ ?_
   refine yS fun _ K27 => ?_
   refine az ?_
   refine yS fun _ K28 => ?_
   refine yR ?_
   refine aa rfl (bl rfl rfl rfl rfl (bn (by assumption)) (Enc.len _)) ?_
   refine yE rfl rfl rfl ?_
   try dsimp only [St.put]
   refine af rfl (eh rfl ?_)
   try dsimp only [St.put]
   refine af rfl (dt rfl rfl rfl zG rfl rfl (by rfl) ?_)
   refine yN ?_
   dsimp only [St.put]
   refine K28 _ ?_
   refine eo (i := 16) rfl zG zC ?_
   dsimp only
   refine yS fun _ K29 => ?_
   refine yR ?_
   refine yM rfl rfl ?_
   refine yE rfl rfl rfl ?_
   try dsimp only [St.put]
   refine du rfl (na q rfl rfl zG trivial rfl (qg _ _)) ?_
   refine yN ?_
   dsimp only [St.put]
   refine K29 _ ?_
   refine ak rfl (fun hc => ?_) (fun hc => ?_)
   ·have hin : q ∈ x.found := by
     rw [ld hnd2 hq] at hc
     exact of_decide_eq_true hc
    refine yS fun _ K30 => ?_
    refine yR ?_
    refine yM rfl rfl ?_
    refine yE rfl rfl rfl ?_
    try dsimp only [St.put]
    refine af rfl (ef rfl rfl rfl (by decide) (by decide) zR (by decide) ?_)
    try dsimp only [St.put]
    refine af rfl (sx rfl rfl (.inr rfl) rfl (show 1 ≤ 3 by decide) (fun r hr => by rw [List.mem_singleton] at hr; subst hr; rfl) (by simp) (by simp) ?_)
    refine yA rfl rfl ?_
    refine yN ?_
    dsimp only [St.put]
    refine K30 _ ?_
    refine yR ?_
    refine yM rfl rfl ?_
    refine yE rfl rfl rfl ?_
    try dsimp only [St.put]
    refine af rfl (qw q rfl rfl zG rfl (qf hnd2 hq hin) ?_)
    refine yN ?_
    dsimp only [St.put]
    refine K27 _ ?_
    refine yR ?_
    refine aa rfl (br rfl rfl rfl (by omega)) ?_
    refine yM rfl rfl ?_
    refine yN ?_
    dsimp only [St.put]
    first
    | exact absurd (show q ∈ x.found from hin) (qy hp hB hq)
    | exact ⟨k + 1, by omega, by omega, ⟨⟨rfl, rfl⟩, zF, zB, zN, zX⟩⟩
   have hout : q ∉ x.found := by
    rw [ld hnd2 hq] at hc
    exact of_decide_eq_false hc
   refine yR ?_
   refine yM rfl rfl ?_
   refine yE rfl rfl rfl ?_
   try dsimp only [St.put]
   refine af rfl (lk (q) rfl rfl rfl zG rfl (qe hnd2 hq hout) ?_)
   refine yN ?_
   dsimp only [St.put]
   refine K27 _ ?_
   refine yR ?_
   refine aa rfl (br rfl rfl rfl (by omega)) ?_
   refine yM rfl rfl ?_
   refine yN ?_
   dsimp only [St.put]
   first
   | exact absurd (show q ∈ x.found from hin) (qy hp hB hq)
   | exact ⟨k + 1, by omega, by omega, ⟨⟨rfl, rfl⟩, zF, zB, zN, zX⟩⟩
  replace hc := of_decide_eq_false hc
  obtain rfl : k = x.well.length := by omega
  refine cr ?_
  refine K23 _ ?_
  refine yS fun _ K31 => ?_
  refine yR ?_
  refine yM rfl rfl ?_
  try dsimp only [St.put]
  refine af rfl (ba rfl rfl rfl (yj) ?_)
  refine yA rfl rfl ?_
  refine yN ?_
  dsimp only [St.put]
  refine K31 _ ?_
  refine re 17 54 3 rfl (by decide) ?_
  dsimp only
  refine yS fun _ K32 => ?_
  refine yS fun _ K33 => ?_
  refine yR ?_
  refine yM rfl rfl ?_
  try dsimp only [St.put]
  refine af rfl (qt rfl rfl zG fun r β cl ks hnd hks0 hinj => ?_)
  refine yN ?_
  dsimp only [St.put]
  refine K33 _ ?_
  rw [hmw] at hks0
  rw [hmw]
  refine az ?_
  refine cj 91 ?_
  refine zQ ?_
  refine db (ai (ai (ai (ai G nx (ji Tryd.prog 54 (x.found.length + x.well.length) (ed (dz x.found x.well)) β cl)) (nx + 1) (.arr 0 0 54 3 0 [])) (nx + 1 + 1) (.raw 0 (.mapIter (some r) cl (gl β ([] : List PlaceD)) cl))) (nx + 1 + 1 + 1) (.fact (.map (some r)) (.map nx))) zX ?_
  dsimp only
  refine c7 (X := List PlaceD × Nat × Nat × Nat) (fun y => (∀ z ∈ y.1, z ∈ ks) ∧ y.1.Nodup) (fun y => nl ks y.1) (fun y => [(17, .own (nx + 1) y.2.2.1 (([] : List PlaceD) ++ y.1).length), (18, .any)]) (fun y G' => (ai (ai (ai (ai G nx (ji Tryd.prog 54 ((x.found.length + x.well.length)) (ed ((dz x.found x.well))) β cl)) ((nx + 1)) (.arr y.2.2.1 y.2.2.2 54 3 ((([] : List PlaceD) ++ y.1)).length (ci ((([] : List PlaceD) ++ y.1))))) ((nx + 1 + 1)) (.raw y.2.1 (.mapIter (some r) cl (gl β y.1) cl))) ((nx + 1 + 1 + 1)) (.fact (.map (some r)) (.map nx)))) ([], 0, 0, 0) rfl ?_ ?_ ?_ ?_ ?_ ?_
  ·exact ⟨fun z hz => by simp at hz, List.nodup_nil⟩
  ·exact zF
  ·exact zX
  ·rintro ⟨done, wi, vl, wv⟩ hI
   exact (by (try dsimp only); repeat' (first | exact trivial | refine ⟨?_, ?_⟩ | exact .v | exact .any | refine .elem ?_ | exact ar _ _ | exact c6 _ _ | exact cw _ _ | exact cy _ (by (try dsimp only); omega) | exact .box (by (try dsimp only); omega) | exact c5 | exact cg | exact lj (f9 _ _) | exact cc _ | refine c4 ?_ ?_ | exact .arr (by (try dsimp only); omega) | exact .own (by (try dsimp only); omega) | exact .map (by (try dsimp only); omega) | exact cc _ | refine bk ?_ ?_ | exact ar _ _))
  ·rintro ⟨done, wi, vl, wv⟩ hI
   exact (by (repeat' (refine et ?_ (by (try dsimp only); omega) ?_)); all_goals (first | exact fq zS | (repeat' (first | exact trivial | refine ⟨?_, ?_⟩ | exact .v | exact .any | refine .elem ?_ | exact ar _ _ | exact c6 _ _ | exact cw _ _ | exact cy _ (by (try dsimp only); omega) | exact .box (by (try dsimp only); omega) | exact c5 | exact cg | exact lj (f9 _ _) | exact cc _ | refine c4 ?_ ?_ | exact .arr (by (try dsimp only); omega) | exact .own (by (try dsimp only); omega) | exact .map (by (try dsimp only); omega) | exact cc _ | refine bk ?_ ?_ | exact ar _ _))))
  rintro ⟨done, wi, vl, wv⟩ hI8
  dsimp only at hI8 ⊢
  refine yS fun _ K34 => ?_
  refine yR ?_
  try dsimp only [St.put]
  refine af rfl (qu (done := done) rfl rfl zG zG zG (hks0) (hinj) (hI8.1) (fun hend => ?_) (fun y c hym hyk hyd => ?_))
  ·have hdl := k8 hp hI8.2 (fun q hq => onceM_ne.1 ((hks0 q).2 (hI8.1 q hq)))
   have hdk : ∀ q, q ∈ done ↔ dz x.found x.well q = true := fun q => ⟨fun hq => onceM_ne.1 ((hks0 q).2 (hI8.1 q hq)), fun hq => hend q ((hks0 q).1 (onceM_ne.2 hq))⟩
   have hpb := qd hp ht (fun q hq => (hdk q).1 hq)
   refine yX rfl rfl rfl rfl ?_
   refine yN ?_
   dsimp only [St.put]
   refine K34 _ ?_
   refine yS fun _ K35 => ?_
   refine ak rfl (fun h => by cases h) (fun _ => ?_)
   refine cr ?_
   refine K32 _ ?_
   refine yS fun _ K36 => ?_
   have hpb2 : ∀ y ∈ ([] : List PlaceD) ++ done, PBd9 y := fun y hy => hpb y (by simpa using hy)
   refine yR ?_
   refine yM rfl rfl ?_
   try dsimp only [St.put]
   refine af rfl (qs pz PBd9 ig rfl rfl rfl rfl zG rfl rfl rfl (fun y hy => hy.plain) hpb2 (by first | (rw [List.length_append]; omega) | (simp only [List.nil_append]; omega)) (fun a b _ _ => ov a b _ _) qc (fun ys hperm hsort => ?_))
   refine yN ?_
   dsimp only [St.put]
   have hlen := hperm.length_eq
   rw [← hB] at hperm hlen
   obtain rfl := rg hp hI8.2 hdk hperm hsort
   refine K36 _ ?_
   refine vo 14 (lst ([] : List PlaceD)) rfl Wk.tok ?_
   refine sy 17 (ca p.text x) rfl zG rfl rfl (by rw [hlen, hB]) ?_
   dsimp only
   refine rc [(0, none), (1, none), (2, none), (3, none), (4, none), (5, none), (6, none), (7, none), (10, none), (11, none), (12, none), (13, none), (14, none), (17, none), (18, none), (19, none), (20, none), (21, none)] (fun i => [23, 26, 29, 32].contains i) (fun i => [0, 1, 2, 3, 4, 5, 7, 10, 11, 12, 14, 17, 18, 19, 21].contains i) 15 (rl [8, 2, 5, 2, 5, 11]) [nB] (by kernel_rfl) (by kernel_rfl) ?_
   refine xM rfl rfl rfl rfl rfl ?_
   refine xM rfl rfl rfl rfl rfl ?_
   refine xM rfl rfl rfl rfl rfl ?_
   refine xM rfl rfl rfl rfl rfl ?_
   refine ae rfl rfl rfl rfl (fb rfl rfl) ?_
   refine ae rfl rfl rfl rfl (dj rfl rfl) ?_
   try dsimp only [St.put]
   refine aw rfl rfl rfl rfl (gg rfl rfl zG (by simp) (by first | rfl | assumption)) ?_
   refine xM rfl rfl rfl rfl rfl ?_
   refine xM rfl rfl rfl rfl rfl ?_
   refine ae rfl rfl rfl rfl (fb rfl rfl) ?_
   refine ae rfl rfl rfl rfl (dj rfl rfl) ?_
   try dsimp only [St.put]
   refine aw rfl rfl rfl rfl (gg rfl rfl zG (by simp) (by first | rfl | assumption)) ?_
   refine xM rfl rfl rfl rfl rfl ?_
   refine xM rfl rfl rfl rfl rfl ?_
   refine ae rfl rfl rfl rfl (fb rfl rfl) ?_
   refine ae rfl rfl rfl rfl (dj rfl rfl) ?_
   try dsimp only [St.put]
   refine aw rfl rfl rfl rfl (gg rfl rfl zG (by simp) (by first | rfl | assumption)) ?_
   refine xM rfl rfl rfl rfl rfl ?_
   refine bq ⟨zD, ?_⟩
   dsimp only [St.put]
   refine vz ws al bo hra hrb (dw p.text x : Int) (lst (ca p.text x)) (lst ([] : List PlaceD)) rfl rfl nB a1 a2 a3 _ rfl (by kernel_rfl) (by kernel_rfl) (by kernel_rfl) rfl rfl rfl rfl rfl rfl rfl rfl rfl rfl rfl rfl rfl zG zG zG zG d1 d2 d3 d4 d5 d6 hw ha hb ?_
   dsimp only
   refine je [(24, none), (25, none)] 7 (rl [26, 7]) (by kernel_rfl) ?_
   refine ae rfl rfl rfl rfl (fb rfl rfl) ?_
   refine ae rfl rfl rfl rfl (dj rfl rfl) ?_
   refine bq ⟨zD, ?_⟩
   refine iz [26] (by kernel_rfl) (by simp) ?_
   refine jd ?_ ?_
   ·try dsimp only [St.put]
    refine jb rfl rfl rfl rfl (iw rfl rfl rfl zG (by constructor) rfl zO ?_)
    refine je [(27, none), (28, none)] 4 (rl [29, 4]) (by kernel_rfl) ?_
    refine ae rfl rfl rfl rfl (fb rfl rfl) ?_
    refine ae rfl rfl rfl rfl (dj rfl rfl) ?_
    refine bq ⟨zD, ?_⟩
    refine iz [29] (by kernel_rfl) (by simp) ?_
    refine jd ?_ ?_
    ·try dsimp only [St.put]
     refine jb rfl rfl rfl rfl (iw rfl rfl rfl zG (by constructor) rfl zO ?_)
     refine je [(30, none), (31, none)] 1 (rl [32, 1]) (by kernel_rfl) ?_
     refine ae rfl rfl rfl rfl (fb rfl rfl) ?_
     refine ae rfl rfl rfl rfl (dj rfl rfl) ?_
     refine bq ⟨zD, ?_⟩
     refine iz [32] (by kernel_rfl) (by simp) ?_
     refine jd ?_ ?_
     ·try dsimp only [St.put]
      refine jb rfl rfl rfl rfl (iw rfl rfl rfl zG (by constructor) rfl zO ?_)
      dsimp only [St.put]
      refine ri (by kernel_rfl) ?_
      rw [hB]
      refine qr rfl (.inl rfl) zN (px zG zG zG zG fun n o q1 q2 q3 q4 h => ?_)
      have hn := hlt n o h
      (try dsimp only)
      repeat (first | exact h | rw [cm (by omega)] | rw [jk (by omega)])
     exact jc
    exact jc
   exact jc
  have hz0 := ph hym
  subst hz0
  obtain ⟨z, hz⟩ : ∃ z, z = y := ⟨_, rfl⟩
  subst hz
  have hIn : ∀ z ∈ ks, ∀ x ∈ done ++ [z], x ∈ ks := fun z hz x hx => by
   rcases List.mem_append.1 hx with hx | hx
   ·exact hI8.1 x hx
   rw [List.mem_singleton] at hx; exact hx ▸ hz
  have hIu : ∀ z, z ∉ done → (done ++ [z]).Nodup := fun z hz => List.nodup_append.2 ⟨hI8.2, by simp, fun a ha b hb => by
   rw [List.mem_singleton] at hb; subst hb; exact fun e => hz (e ▸ ha)⟩
  have hdl := k8 hp hI8.2 (fun q hq => onceM_ne.1 ((hks0 q).2 (hI8.1 q hq)))
  refine yX rfl rfl rfl rfl ?_
  refine yN ?_
  dsimp only [St.put]
  refine K34 _ ?_
  refine yS fun _ K37 => ?_
  refine ak rfl (fun _ => ?_) (fun h => by cases h)
  refine av ?_
  refine K37 _ ?_
  refine az ?_
  refine yS fun _ K38 => ?_
  refine yR ?_
  try dsimp only [St.put]
  refine du rfl (p8 (fx := nx + 1 + 1 + 1) (n := nx) rfl rfl zG trivial zG zG trivial (by assumption)) ?_
  refine yX rfl rfl rfl rfl ?_
  try dsimp only [St.put]
  refine af rfl (eh rfl ?_)
  try dsimp only [St.put]
  refine af rfl (dt rfl rfl rfl zG rfl rfl (by rfl) ?_)
  refine yN ?_
  dsimp only [St.put]
  refine K38 _ ?_
  refine eo (i := 18) rfl zG zC ?_
  dsimp only
  refine yR ?_
  refine yM rfl rfl ?_
  try dsimp only [St.put]
  refine du rfl (d9 rfl rfl rfl) ?_
  try dsimp only [St.put]
  refine af rfl (ef rfl rfl rfl (by decide) (by decide) zR (by decide) ?_)
  try dsimp only [St.put]
  refine af rfl (ki (xs := ([] : List PlaceD) ++ done) [z] rfl rfl zG rfl rfl rfl rfl zA zA (fun v3 => ?_))
  refine yA rfl rfl ?_
  refine yN ?_
  dsimp only [St.put]
  simp only [List.append_assoc]
  exact ⟨(done ++ [z], wi + 1, v3, wv), ql hyk hyd, ⟨hIn z hyk, hIu z hyd⟩, ⟨⟨rfl, rfl⟩, zF, zB, zN, zX⟩⟩
 refine yR ?_
 refine yA rfl rfl ?_
 refine yN ?_
 dsimp only [St.put]
 refine K22 _ ?_
 refine s7 14 54 3 rfl (by decide) ?_
 dsimp only [List.set_cons_zero, List.set_cons_succ]
 refine yS fun _ K39 => ?_
 refine yS fun _ K40 => ?_
 refine yR ?_
 refine yF rfl rfl rfl rfl ?_
 refine yL rfl rfl rfl ?_
 refine aa rfl (bg rfl rfl (List.length_map _)) ?_
 refine yM rfl rfl ?_
 refine yN ?_
 dsimp only [St.put]
 refine K40 _ ?_
 refine az ?_
 refine cj 72 ?_
 refine zQ ?_
 refine db (ai ((ai G nx (fe Tryd.prog 54 (x.found.length) ((ed (dz x.found (x.well.take 0))))))) (nx + 1) (.tip 0 54 3)) zX ?_
 dsimp only
 refine c7 (X := Nat) (fun k => k ≤ x.well.length) (fun k => x.well.length - k) (fun k => [(14, .list ((jm x.found x.well k).map cells) (.tip (nx + 1))), (16, .any), (71, .v (.int .i64 (k : Int)))]) (fun k G' => ai ((ai G nx (fe Tryd.prog 54 ((x.found.length + k)) ((ed (dz x.found (x.well.take k))))))) (nx + 1) (.tip (jm x.found x.well k).length 54 3)) 0 rfl ?_ ?_ ?_ ?_ ?_ ?_
 ·exact Nat.zero_le _
 ·exact zF
 ·exact zX
 ·rintro k hI
  exact (by (try dsimp only); repeat' (first | exact trivial | refine ⟨?_, ?_⟩ | exact .v | exact .any | refine .elem ?_ | exact ar _ _ | exact c6 _ _ | exact cw _ _ | exact cy _ (by (try dsimp only); omega) | exact .box (by (try dsimp only); omega) | exact c5 | exact cg | exact ei (f9 _ _) | refine c4 ?_ ?_ | exact .arr (by (try dsimp only); omega) | exact .own (by (try dsimp only); omega) | exact .map (by (try dsimp only); omega) | exact cc _ | refine bk ?_ ?_ | exact ar _ _))
 ·rintro k hI
  exact (by (repeat' (refine et ?_ (by (try dsimp only); omega) ?_)); all_goals (first | exact fq zS | (repeat' (first | exact trivial | refine ⟨?_, ?_⟩ | exact .v | exact .any | refine .elem ?_ | exact ar _ _ | exact c6 _ _ | exact cw _ _ | exact cy _ (by (try dsimp only); omega) | exact .box (by (try dsimp only); omega) | exact c5 | exact cg | exact ei (f9 _ _) | refine c4 ?_ ?_ | exact .arr (by (try dsimp only); omega) | exact .own (by (try dsimp only); omega) | exact .map (by (try dsimp only); omega) | exact cc _ | refine bk ?_ ?_ | exact ar _ _))))
 rintro k hK
 dsimp only at hK ⊢
 refine yS fun _ K41 => ?_
 refine yR ?_
 refine aa rfl (cn rfl rfl rfl) ?_
 refine yN ?_
 dsimp only [St.put]
 refine K41 _ ?_
 refine yS fun _ K42 => ?_
 refine ak rfl (fun hc => ?_) (fun hc => ?_)
 ·replace hc := of_decide_eq_true hc
  obtain ⟨q, hq⟩ : ∃ q, x.well[k]? = some q := cx (by omega)
  have hbt := ra x.found x.well k
  refine av ?_
  refine K42 _ ?_
  refine yS fun _ K43 => ?_
  refine az ?_
  refine yS fun _ K44 => ?_
  refine yR ?_
  refine aa rfl (bl rfl rfl rfl rfl (bn (by assumption)) (Enc.len _)) ?_
  refine yE rfl rfl rfl ?_
  try dsimp only [St.put]
  refine af rfl (eh rfl ?_)
  try dsimp only [St.put]
  refine af rfl (dt rfl rfl rfl zG rfl rfl (by rfl) ?_)
  refine yN ?_
  dsimp only [St.put]
  refine K44 _ ?_
  refine eo (i := 16) rfl zG zC ?_
  dsimp only
  refine yS fun _ K45 => ?_
  refine yR ?_
  refine yM rfl rfl ?_
  refine yE rfl rfl rfl ?_
  try dsimp only [St.put]
  refine du rfl (na q rfl rfl zG trivial rfl (qg _ _)) ?_
  refine yN ?_
  dsimp only [St.put]
  refine K45 _ ?_
  refine ak rfl (fun hc => ?_) (fun hc => ?_)
  ·have hin : q ∈ x.found := by
    rw [ld hnd2 hq] at hc
    exact of_decide_eq_true hc
   refine yS fun _ K46 => ?_
   refine yR ?_
   refine yM rfl rfl ?_
   refine yE rfl rfl rfl ?_
   try dsimp only [St.put]
   refine af rfl (ef rfl rfl rfl (by decide) (by decide) zR (by decide) ?_)
   try dsimp only [St.put]
   refine af rfl (ma ([q]) rfl rfl zG zE rfl rfl zA ?_ zA)
   refine yA rfl rfl ?_
   refine yN ?_
   dsimp only [St.put]
   refine K46 _ ?_
   refine yR ?_
   refine yM rfl rfl ?_
   refine yE rfl rfl rfl ?_
   try dsimp only [St.put]
   refine af rfl (qw q rfl rfl zG rfl (qf hnd2 hq hin) ?_)
   refine yN ?_
   dsimp only [St.put]
   refine K43 _ ?_
   refine yR ?_
   refine aa rfl (br rfl rfl rfl (by omega)) ?_
   refine yM rfl rfl ?_
   refine yN ?_
   dsimp only [St.put]
   have e := qz (F := x.found) hq
   first
   | (have hi : q ∈ x.found := hin
      rw [decide_eq_true hi, cond_true] at e
      simp only [← e]
      exact ⟨k + 1, by omega, by omega, ⟨⟨rfl, rfl⟩, zF, zB, zN, zX⟩⟩)
   | (have hi : q ∉ x.found := hout
      rw [decide_eq_false hi, cond_false, List.append_nil] at e
      simp only [← e]
      exact ⟨k + 1, by omega, by omega, ⟨⟨rfl, rfl⟩, zF, zB, zN, zX⟩⟩)
  have hout : q ∉ x.found := by
   rw [ld hnd2 hq] at hc
   exact of_decide_eq_false hc
  refine yR ?_
  refine yM rfl rfl ?_
  refine yE rfl rfl rfl ?_
  try dsimp only [St.put]
  refine af rfl (lk (q) rfl rfl rfl zG rfl (qe hnd2 hq hout) ?_)
  refine yN ?_
  dsimp only [St.put]
  refine K43 _ ?_
  refine yR ?_
  refine aa rfl (br rfl rfl rfl (by omega)) ?_
  refine yM rfl rfl ?_
  refine yN ?_
  dsimp only [St.put]
  have e := qz (F := x.found) hq
  first
  | (have hi : q ∈ x.found := hin
     rw [decide_eq_true hi, cond_true] at e
     simp only [← e]
     exact ⟨k + 1, by omega, by omega, ⟨⟨rfl, rfl⟩, zF, zB, zN, zX⟩⟩)
  | (have hi : q ∉ x.found := hout
     rw [decide_eq_false hi, cond_false, List.append_nil] at e
     simp only [← e]
     exact ⟨k + 1, by omega, by omega, ⟨⟨rfl, rfl⟩, zF, zB, zN, zX⟩⟩)
 replace hc := of_decide_eq_false hc
 obtain rfl : k = x.well.length := by omega
 rw [yn hp]
 refine cr ?_
 refine K39 _ ?_
 refine yS fun _ K47 => ?_
 refine vo 14 (lst (bf p.text x)) rfl Wk.tok ?_
 refine yR ?_
 refine yM rfl rfl ?_
 try dsimp only [St.put]
 refine af rfl (sv rfl rfl rfl (uc0 (bf p.text x) hB (by omega) _ _) ?_)
 refine yA rfl rfl ?_
 refine yN ?_
 dsimp only [St.put]
 refine K47 _ ?_
 refine yS fun _ K48 => ?_
 refine yS fun _ K49 => ?_
 refine yR ?_
 refine yM rfl rfl ?_
 try dsimp only [St.put]
 refine af rfl (qt rfl rfl zG fun r β cl ks hnd hks0 hinj => ?_)
 refine yN ?_
 dsimp only [St.put]
 refine K49 _ ?_
 rw [hmw] at hks0
 rw [hmw]
 refine az ?_
 refine cj 91 ?_
 refine zQ ?_
 refine db (ai (ai (ai (ai G nx (ji Tryd.prog 54 (x.found.length + x.well.length) (ed (dz x.found x.well)) β cl)) (nx + 1 + 1) (.arr 0 0 54 3 (bf p.text x).length (ci (bf p.text x)))) (nx + 1 + 1 + 1) (.raw 0 (.mapIter (some r) cl (gl β ([] : List PlaceD)) cl))) (nx + 1 + 1 + 1 + 1) (.fact (.map (some r)) (.map nx))) zX ?_
 dsimp only
 refine c7 (X := List PlaceD × Nat × Nat × Nat) (fun y => (∀ z ∈ y.1, z ∈ ks) ∧ y.1.Nodup) (fun y => nl ks y.1) (fun y => [(17, .own (nx + 1 + 1) y.2.2.1 (bf p.text x ++ y.1).length), (18, .any)]) (fun y G' => (ai (ai (ai (ai G nx (ji Tryd.prog 54 ((x.found.length + x.well.length)) (ed ((dz x.found x.well))) β cl)) ((nx + 1 + 1)) (.arr y.2.2.1 y.2.2.2 54 3 ((bf p.text x ++ y.1)).length (ci ((bf p.text x ++ y.1))))) ((nx + 1 + 1 + 1)) (.raw y.2.1 (.mapIter (some r) cl (gl β y.1) cl))) ((nx + 1 + 1 + 1 + 1)) (.fact (.map (some r)) (.map nx)))) ([], 0, 0, 0) rfl ?_ ?_ ?_ ?_ ?_ ?_
 ·exact ⟨fun z hz => by simp at hz, List.nodup_nil⟩
 ·simp only [List.append_nil]
  exact zF
 ·simp only [List.append_nil]
  exact zX
 ·rintro ⟨done, wi, vl, wv⟩ hI
  exact (by (try dsimp only); repeat' (first | exact trivial | refine ⟨?_, ?_⟩ | exact .v | exact .any | refine .elem ?_ | exact ar _ _ | exact c6 _ _ | exact cw _ _ | exact cy _ (by (try dsimp only); omega) | exact .box (by (try dsimp only); omega) | exact c5 | exact cg | exact lj (f9 _ _) | exact cc _ | refine c4 ?_ ?_ | exact .arr (by (try dsimp only); omega) | exact .own (by (try dsimp only); omega) | exact .map (by (try dsimp only); omega) | exact cc _ | refine bk ?_ ?_ | exact ar _ _))
 ·rintro ⟨done, wi, vl, wv⟩ hI
  exact (by (repeat' (refine et ?_ (by (try dsimp only); omega) ?_)); all_goals (first | exact fq zS | (repeat' (first | exact trivial | refine ⟨?_, ?_⟩ | exact .v | exact .any | refine .elem ?_ | exact ar _ _ | exact c6 _ _ | exact cw _ _ | exact cy _ (by (try dsimp only); omega) | exact .box (by (try dsimp only); omega) | exact c5 | exact cg | exact lj (f9 _ _) | exact cc _ | refine c4 ?_ ?_ | exact .arr (by (try dsimp only); omega) | exact .own (by (try dsimp only); omega) | exact .map (by (try dsimp only); omega) | exact cc _ | refine bk ?_ ?_ | exact ar _ _))))
 rintro ⟨done, wi, vl, wv⟩ hI8
 dsimp only at hI8 ⊢
 refine yS fun _ K50 => ?_
 refine yR ?_
 try dsimp only [St.put]
 refine af rfl (qu (done := done) rfl rfl zG zG zG (hks0) (hinj) (hI8.1) (fun hend => ?_) (fun y c hym hyk hyd => ?_))
 ·have hdl := k8 hp hI8.2 (fun q hq => onceM_ne.1 ((hks0 q).2 (hI8.1 q hq)))
  have hdk : ∀ q, q ∈ done ↔ dz x.found x.well q = true := fun q => ⟨fun hq => onceM_ne.1 ((hks0 q).2 (hI8.1 q hq)), fun hq => hend q ((hks0 q).1 (onceM_ne.2 hq))⟩
  have hpb := qd hp ht (fun q hq => (hdk q).1 hq)
  refine yX rfl rfl rfl rfl ?_
  refine yN ?_
  dsimp only [St.put]
  refine K50 _ ?_
  refine yS fun _ K51 => ?_
  refine ak rfl (fun h => by cases h) (fun _ => ?_)
  refine cr ?_
  refine K48 _ ?_
  refine yS fun _ K52 => ?_
  have hpb2 : ∀ y ∈ bf p.text x ++ done, PBd9 y := fun y hy => by
   rcases List.mem_append.1 hy with hy | hy
   ·exact yo hp ht hy
   exact hpb y hy
  refine yR ?_
  refine yM rfl rfl ?_
  try dsimp only [St.put]
  refine af rfl (qs pz PBd9 ig rfl rfl rfl rfl zG rfl rfl rfl (fun y hy => hy.plain) hpb2 (by first | (rw [List.length_append]; omega) | (simp only [List.nil_append]; omega)) (fun a b _ _ => ov a b _ _) qc (fun ys hperm hsort => ?_))
  refine yN ?_
  dsimp only [St.put]
  have hlen := hperm.length_eq
  obtain rfl := rg hp hI8.2 hdk hperm hsort
  refine K52 _ ?_
  refine sy 17 (ca p.text x) rfl zG rfl rfl hlen.symm ?_
  dsimp only
  refine rc [(0, none), (1, none), (2, none), (3, none), (4, none), (5, none), (6, none), (7, none), (10, none), (11, none), (12, none), (13, none), (14, none), (17, none), (18, none), (19, none), (20, none), (21, none)] (fun i => [23, 26, 29, 32].contains i) (fun i => [0, 1, 2, 3, 4, 5, 7, 10, 11, 12, 14, 17, 18, 19, 21].contains i) 15 (rl [8, 2, 5, 2, 5, 11]) [nB] (by kernel_rfl) (by kernel_rfl) ?_
  refine xM rfl rfl rfl rfl rfl ?_
  refine xM rfl rfl rfl rfl rfl ?_
  refine xM rfl rfl rfl rfl rfl ?_
  refine xM rfl rfl rfl rfl rfl ?_
  refine ae rfl rfl rfl rfl (fb rfl rfl) ?_
  refine ae rfl rfl rfl rfl (dj rfl rfl) ?_
  try dsimp only [St.put]
  refine aw rfl rfl rfl rfl (gg rfl rfl zG (by simp) (by first | rfl | assumption)) ?_
  refine xM rfl rfl rfl rfl rfl ?_
  refine xM rfl rfl rfl rfl rfl ?_
  refine ae rfl rfl rfl rfl (fb rfl rfl) ?_
  refine ae rfl rfl rfl rfl (dj rfl rfl) ?_
  try dsimp only [St.put]
  refine aw rfl rfl rfl rfl (gg rfl rfl zG (by simp) (by first | rfl | assumption)) ?_
  refine xM rfl rfl rfl rfl rfl ?_
  refine xM rfl rfl rfl rfl rfl ?_
  refine ae rfl rfl rfl rfl (fb rfl rfl) ?_
  refine ae rfl rfl rfl rfl (dj rfl rfl) ?_
  try dsimp only [St.put]
  refine aw rfl rfl rfl rfl (gg rfl rfl zG (by simp) (by first | rfl | assumption)) ?_
  refine xM rfl rfl rfl rfl rfl ?_
  refine bq ⟨zD, ?_⟩
  dsimp only [St.put]
  refine vz ws al bo hra hrb (dw p.text x : Int) (lst (ca p.text x)) (lst (bf p.text x)) rfl rfl nB a1 a2 a3 _ rfl (by kernel_rfl) (by kernel_rfl) (by kernel_rfl) rfl rfl rfl rfl rfl rfl rfl rfl rfl rfl rfl rfl rfl zG zG zG zG d1 d2 d3 d4 d5 d6 hw ha hb ?_
  dsimp only
  refine je [(24, none), (25, none)] 7 (rl [26, 7]) (by kernel_rfl) ?_
  refine ae rfl rfl rfl rfl (fb rfl rfl) ?_
  refine ae rfl rfl rfl rfl (dj rfl rfl) ?_
  refine bq ⟨zD, ?_⟩
  refine iz [26] (by kernel_rfl) (by simp) ?_
  refine jd ?_ ?_
  ·try dsimp only [St.put]
   refine jb rfl rfl rfl rfl (iw rfl rfl rfl zG (by constructor) rfl zO ?_)
   refine je [(27, none), (28, none)] 4 (rl [29, 4]) (by kernel_rfl) ?_
   refine ae rfl rfl rfl rfl (fb rfl rfl) ?_
   refine ae rfl rfl rfl rfl (dj rfl rfl) ?_
   refine bq ⟨zD, ?_⟩
   refine iz [29] (by kernel_rfl) (by simp) ?_
   refine jd ?_ ?_
   ·try dsimp only [St.put]
    refine jb rfl rfl rfl rfl (iw rfl rfl rfl zG (by constructor) rfl zO ?_)
    refine je [(30, none), (31, none)] 1 (rl [32, 1]) (by kernel_rfl) ?_
    refine ae rfl rfl rfl rfl (fb rfl rfl) ?_
    refine ae rfl rfl rfl rfl (dj rfl rfl) ?_
    refine bq ⟨zD, ?_⟩
    refine iz [32] (by kernel_rfl) (by simp) ?_
    refine jd ?_ ?_
    ·try dsimp only [St.put]
     refine jb rfl rfl rfl rfl (iw rfl rfl rfl zG (by constructor) rfl zO ?_)
     dsimp only [St.put]
     refine ri (by kernel_rfl) ?_
     refine qr rfl (.inl rfl) zN (px zG zG zG zG fun n o q1 q2 q3 q4 h => ?_)
     have hn := hlt n o h
     (try dsimp only)
     repeat (first | exact h | rw [cm (by omega)] | rw [jk (by omega)])
    exact jc
   exact jc
  exact jc
 have hz0 := ph hym
 subst hz0
 obtain ⟨z, hz⟩ : ∃ z, z = y := ⟨_, rfl⟩
 subst hz
 have hIn : ∀ z ∈ ks, ∀ x ∈ done ++ [z], x ∈ ks := fun z hz x hx => by
  rcases List.mem_append.1 hx with hx | hx
  ·exact hI8.1 x hx
  rw [List.mem_singleton] at hx; exact hx ▸ hz
 have hIu : ∀ z, z ∉ done → (done ++ [z]).Nodup := fun z hz => List.nodup_append.2 ⟨hI8.2, by simp, fun a ha b hb => by
  rw [List.mem_singleton] at hb; subst hb; exact fun e => hz (e ▸ ha)⟩
 have hdl := k8 hp hI8.2 (fun q hq => onceM_ne.1 ((hks0 q).2 (hI8.1 q hq)))
 refine yX rfl rfl rfl rfl ?_
 refine yN ?_
 dsimp only [St.put]
 refine K50 _ ?_
 refine yS fun _ K53 => ?_
 refine ak rfl (fun _ => ?_) (fun h => by cases h)
 refine av ?_
 refine K53 _ ?_
 refine az ?_
 refine yS fun _ K54 => ?_
 refine yR ?_
 try dsimp only [St.put]
 refine du rfl (p8 (fx := nx + 1 + 1 + 1 + 1) (n := nx) rfl rfl zG trivial zG zG trivial (by assumption)) ?_
 refine yX rfl rfl rfl rfl ?_
 try dsimp only [St.put]
 refine af rfl (eh rfl ?_)
 try dsimp only [St.put]
 refine af rfl (dt rfl rfl rfl zG rfl rfl (by rfl) ?_)
 refine yN ?_
 dsimp only [St.put]
 refine K54 _ ?_
 refine eo (i := 18) rfl zG zC ?_
 dsimp only
 refine yR ?_
 refine yM rfl rfl ?_
 try dsimp only [St.put]
 refine du rfl (d9 rfl rfl rfl) ?_
 try dsimp only [St.put]
 refine af rfl (ef rfl rfl rfl (by decide) (by decide) zR (by decide) ?_)
 try dsimp only [St.put]
 refine af rfl (ki (xs := bf p.text x ++ done) [z] rfl rfl zG rfl rfl rfl rfl zA zA (fun v3 => ?_))
 refine yA rfl rfl ?_
 refine yN ?_
 dsimp only [St.put]
 simp only [List.append_assoc]
 exact ⟨(done ++ [z], wi + 1, v3, wv), ql hyk hyd, ⟨hIn z hyk, hIu z hyd⟩, ⟨⟨rfl, rfl⟩, zF, zB, zN, zX⟩⟩
set_option maxHeartbeats 4000000 in
theorem ujc (p : am) (last : Int) (x : aq) (ws : List Int) (al bo : List (List C)) (hra : ∀ r ∈ al, r.length = 1) (hrb : ∀ r ∈ bo, r.length = 1) (nB a1 a2 a3 V : Nat) (ht : dl p.text = true) (hp : mh p last x) (hw : ws.length ≤ 100) (ha : al.length ≤ 100) (hb : bo.length ≤ 100) (G : Nat → Option GObj) (nx : Nat) (hla : ∀ r ∈ al, ∀ c ∈ r, C.low nx c) (hlb : ∀ r ∈ bo, ∀ c ∈ r, C.low nx c) (hN : nB < nx) (h1 : a1 < nx) (h2 : a2 < nx) (h3 : a3 < nx) (d1 : nB ≠ a1) (d2 : nB ≠ a2) (d3 : nB ≠ a3) (d4 : a1 ≠ a2) (d5 : a1 ≠ a3) (d6 : a2 ≠ a3)
  (hGB : G nB = some (((.box (V) [lst p.text, lst p.firsts, lst p.seconds, lst p.pages, .list ((ws).map cells) (.tip a1), .list (al) (.tip a2), .list (bo) (.tip a3)])))) (hG1 : G a1 = some (.tip ws.length 3 1)) (hG2 : G a2 = some (.tip al.length 36 1)) (hG3 : G a3 = some (.tip bo.length 36 1)) :
  PC Tryd.prog 70 [.box nB 0 0, val x, lst (j6 p.text p.text.length)] G nx fun r' G' nx' => ∃ y : Nat × Nat × Nat × Nat × Nat × Nat, ((nx ≤ y.1 ∧ nx ≤ y.2.2.2.1) ∧ (y.1 < nx + 5 ∧ y.2.2.2.1 < nx + 5) ∧ y.1 ≠ y.2.2.2.1) ∧ r' = .tup [] ∧ G' = ai (ai (ai (ai (ai (ai G y.1 (.arr y.2.1 y.2.2.1 54 3 (ca p.text x).length (ci (ca p.text x)))) y.2.2.2.1 (.arr y.2.2.2.2.1 y.2.2.2.2.2 54 3 (bf p.text x).length (ci (bf p.text x)))) nB (((.box ((V + 1 + 1 + 1)) [lst p.text, lst p.firsts, lst p.seconds, lst p.pages, .list (((ws ++ [(dw p.text x : Int)])).map cells) (.tip a1), .list ((al ++ [[.own y.1 y.2.1 (ca p.text x).length]])) (.tip a2), .list ((bo ++ [[.own y.2.2.2.1 y.2.2.2.2.1 (bf p.text x).length]])) (.tip a3)])))) a1 (.tip (ws ++ [(dw p.text x : Int)]).length 3 1)) a2 (.tip (al ++ [[C.own y.1 y.2.1 (ca p.text x).length]]).length 36 1)) a3 (.tip (bo ++ [[C.own y.2.2.2.1 y.2.2.2.2.1 (bf p.text x).length]]).length 36 1) ∧ nx' = nx + 5 := by
 refine rz (nx := nx) (G := G) (args := [.box nB 0 0, val x, lst (j6 p.text p.text.length)]) (fun _ : Nat × Nat × Nat × Nat × Nat × Nat => .tup []) (fun y => ai (ai (ai (ai (ai (ai G y.1 (.arr y.2.1 y.2.2.1 54 3 (ca p.text x).length (ci (ca p.text x)))) y.2.2.2.1 (.arr y.2.2.2.2.1 y.2.2.2.2.2 54 3 (bf p.text x).length (ci (bf p.text x)))) nB (((.box ((V + 1 + 1 + 1)) [lst p.text, lst p.firsts, lst p.seconds, lst p.pages, .list (((ws ++ [(dw p.text x : Int)])).map cells) (.tip a1), .list ((al ++ [[.own y.1 y.2.1 (ca p.text x).length]])) (.tip a2), .list ((bo ++ [[.own y.2.2.2.1 y.2.2.2.2.1 (bf p.text x).length]])) (.tip a3)])))) a1 (.tip (ws ++ [(dw p.text x : Int)]).length 3 1)) a2 (.tip (al ++ [[C.own y.1 y.2.1 (ca p.text x).length]]).length 36 1)) a3 (.tip (bo ++ [[C.own y.2.2.2.1 y.2.2.2.2.1 (bf p.text x).length]]).length 36 1)) (fun _ => nx + 5) (fun y => (nx ≤ y.1 ∧ nx ≤ y.2.2.2.1) ∧ (y.1 < nx + 5 ∧ y.2.2.2.1 < nx + 5) ∧ y.1 ≠ y.2.2.2.1) Tryd.func70 rfl (fun y hS => .tup cg) (fun y hS => zN) (fun hlt y hS => (by (repeat' (refine et ?_ (by (try dsimp only); omega) ?_)); all_goals (first | exact fq zS | (repeat' (first | exact trivial | refine ⟨?_, ?_⟩ | exact .v | exact .any | refine .elem ?_ | exact ar _ _ | exact c6 _ _ | exact cw _ _ | exact cy _ (by (try dsimp only); omega) | exact .box (by (try dsimp only); omega) | exact c5 | exact cg | exact p9 (t8 (zz hla (by omega)) (.own hS.2.1.1)) (by omega) | exact p9 (t8 (zz hlb (by omega)) (.own hS.2.1.2)) (by omega) | exact cc _ | refine c4 ?_ ?_ | exact .arr (by (try dsimp only); omega) | exact .own (by (try dsimp only); omega) | exact .map (by (try dsimp only); omega) | exact cc _ | refine bk ?_ ?_ | exact ar _ _))))) ?_
 simp only [Tryd.ntmps70, List.length_cons, List.length_nil, Nat.reduceAdd, Nat.reduceSub]
 refine ct fun hlt => ?_
 dsimp only at hlt
 obtain ⟨hl1, hl2, hl3⟩ := jo ht
 have hal := km ht
 have hnd1 := pe (o5 hp.found)
 have hnd2 := pe (o5 hp.well)
 have hfl := io hp.found
 have hwl := io hp.well
 have hbl := rb p.text x
 have hgl := pp p.text x
 have hwx := v8 p.text x
 have hwt : ∀ (f : PlaceD → Bool) (l : List PlaceD), (l.filter f).length ≤ l.length := fun f l => List.length_filter_le f l
 have hstl := tn p.text p.text.length
 have hmw : x.well.take x.well.length = x.well := List.take_length
 refine yS fun _ K1 => ?_
 refine yR ?_
 try dsimp only [St.put]
 refine yB rfl rfl rfl ?_
 refine yN ?_
 dsimp only [St.put]
 refine K1 _ ?_
 refine yS fun _ K2 => ?_
 refine yR ?_
 refine yA rfl rfl ?_
 refine yN ?_
 dsimp only [St.put]
 rw [show (0 : Int) = ((dr p.text x (dh (p.text.take 0)) : Nat) : Int) from rfl]
 refine K2 _ ?_
 refine yS fun _ K3 => ?_
 refine yS fun _ K4 => ?_
 refine yR ?_
 refine yM rfl rfl ?_
 refine aa rfl (fb rfl rfl) ?_
 refine aa rfl (dj rfl rfl) ?_
 refine aa rfl (dj rfl rfl) ?_
 refine aa rfl (dj rfl rfl) ?_
 try dsimp only [St.put]
 refine du rfl (gg rfl rfl zG trivial (by first | rfl | assumption)) ?_
 refine aa rfl (bg rfl rfl (List.length_map _)) ?_
 refine yM rfl rfl ?_
 refine yN ?_
 dsimp only [St.put]
 refine K4 _ ?_
 refine az ?_
 refine cj 27 ?_
 refine zQ ?_
 refine c7 (X := Nat) (fun k => k ≤ p.text.length) (fun k => p.text.length - k) (fun k => [(6, .v (.int .i64 ((dr p.text x (dh (p.text.take k)) : Nat) : Int))), (7, .any), (8, .any), (9, .any), (10, .any), (26, .v (.int .i64 (k : Int)))]) (fun k G' => G') 0 rfl ?_ ?_ (fun _ _ h => h) ?_ ?_ ?_
 ·exact Nat.zero_le _
 ·exact zF
 ·rintro k hI
  exact zL
 ·exact fun _ _ _ _ h => .inl h
 rintro k hI
 dsimp only at hI ⊢
 refine yS fun _ K5 => ?_
 refine yR ?_
 refine aa rfl (cn rfl rfl rfl) ?_
 refine yN ?_
 dsimp only [St.put]
 refine K5 _ ?_
 refine yS fun _ K6 => ?_
 refine ak rfl (fun hc => ?_) (fun hc => ?_)
 ·replace hc := of_decide_eq_true hc
  obtain ⟨c, hcx⟩ : ∃ c, p.text[k]? = some c := cx (by omega)
  have hll := (hl3 c (ez hcx)).2.1
  have hwo := (hl3 c (ez hcx)).2.2
  have hst := rr (t := p.text) (k := p.text.length) (i := k) (by omega)
  have hsb := og ht k (by omega)
  refine av ?_
  refine K6 _ ?_
  refine yS fun _ K7 => ?_
  refine az ?_
  refine yS fun _ K8 => ?_
  refine yR ?_
  refine yM rfl rfl ?_
  refine aa rfl (bl rfl rfl rfl rfl (bn (by assumption)) (Enc.len _)) ?_
  refine yE rfl rfl rfl ?_
  try dsimp only [St.put]
  refine af rfl (eh rfl ?_)
  refine yA rfl rfl ?_
  try dsimp only [St.put]
  refine af rfl (dt rfl rfl rfl zG rfl rfl (by rfl) ?_)
  refine yN ?_
  dsimp only [St.put]
  refine K8 _ ?_
  refine eo (i := 8) rfl zG zC ?_
  dsimp only
  refine yS fun _ K9 => ?_
  refine yR ?_
  refine yF rfl rfl rfl rfl ?_
  refine yL rfl rfl rfl ?_
  refine aa rfl (bg rfl rfl (List.length_map _)) ?_
  refine yM rfl rfl ?_
  refine yN ?_
  dsimp only [St.put]
  rw [vw p.text k c.lines]
  refine K9 _ ?_
  refine az ?_
  refine cj 35 ?_
  refine zQ ?_
  refine c7 (X := Nat) (fun n => n ≤ c.lines.length) (fun n => c.lines.length - n) (fun n => [(6, .v (.int .i64 ((dr p.text x (ec p.text k c.lines n) : Nat) : Int))), (9, .any), (10, .any), (34, .v (.int .i64 (n : Int)))]) (fun n G' => G') 0 rfl ?_ ?_ (fun _ _ h => h) ?_ ?_ ?_
  ·exact Nat.zero_le _
  ·exact zF
  ·rintro n hI
   exact zL
  ·exact fun _ _ _ _ h => .inl h
  rintro n hJ
  dsimp only at hJ ⊢
  refine yS fun _ K10 => ?_
  refine yR ?_
  refine aa rfl (cn rfl rfl rfl) ?_
  refine yN ?_
  dsimp only [St.put]
  refine K10 _ ?_
  refine yS fun _ K11 => ?_
  refine ak rfl (fun hc => ?_) (fun hc => ?_)
  ·replace hc := of_decide_eq_true hc
   obtain ⟨l, hn⟩ : ∃ l, c.lines[n]? = some l := cx (by omega)
   have hlb := hwo l (ez hn)
   have hqb : dr p.text x (ec p.text k c.lines n) ≤ 600 := by
    have hle := vv ht hcx hn 0
    rw [← vu] at hle
    have := hwt (el p.text x) (ec p.text k c.lines n)
    unfold dr
    omega
   refine av ?_
   refine K11 _ ?_
   refine yS fun _ K12 => ?_
   refine az ?_
   refine yS fun _ K13 => ?_
   refine yR ?_
   refine yM rfl rfl ?_
   refine aa rfl (bl rfl rfl rfl rfl (bn (by assumption)) (Enc.len _)) ?_
   refine yL rfl rfl rfl ?_
   refine yA rfl rfl ?_
   refine yA rfl rfl ?_
   refine yN ?_
   dsimp only [St.put]
   refine K13 _ ?_
   refine yS fun _ K14 => ?_
   refine f4 [(0, none), (1, none), (2, none), (3, none), (4, none), (5, none), (6, none), (7, none), (8, none), (9, none), (10, none), (11, none)] (fun i => [11].contains i) (fun i => [10, 11].contains i) (fun i => [0, 2, 4, 5, 6, 8, 9].contains i) [] (by kernel_rfl) (by kernel_rfl) ?_
   refine ae rfl rfl rfl rfl (cb rfl rfl rfl) ?_
   try dsimp only [St.put]
   refine aw rfl rfl rfl rfl (bv rfl rfl) ?_
   refine ae rfl rfl rfl rfl (cb rfl rfl rfl) ?_
   try dsimp only [St.put]
   refine aw rfl rfl rfl rfl (bv rfl rfl) ?_
   refine xM rfl rfl rfl rfl rfl ?_
   refine xM rfl rfl rfl rfl rfl ?_
   try dsimp only [St.put]
   refine ae rfl rfl rfl rfl (bl rfl rfl rfl rfl (bn (by assumption)) (Enc.len _)) ?_
   try dsimp only [St.put]
   refine aw rfl rfl rfl rfl (bv rfl rfl) ?_
   refine xM rfl rfl rfl rfl rfl ?_
   refine ae rfl rfl rfl rfl (br rfl rfl rfl (by omega)) ?_
   refine ij ?_
   try dsimp only [St.put]
   refine g8 rfl rfl rfl (ef rfl rfl rfl (by decide) (by decide) zR (by decide) ⟨zD, ?_⟩)
   try dsimp only [St.put]
   refine gt rfl rfl rfl rfl (ba rfl rfl rfl (jh _ _ [_]) ?_)
   refine ii ?_
   dsimp only [St.put]
   refine K14 _ ?_
   refine ak rfl (fun hc => ?_) (fun hc => ?_)
   ·have hpg : inB ((fh p.text k : Int) + (n : Int)) x.fr x.to = true := by rw [er] at hc; exact hc
    refine yR ?_
    refine yM rfl rfl ?_
    refine yM rfl rfl ?_
    refine aa rfl (bg rfl rfl (List.length_map _)) ?_
    refine aa rfl (br rfl rfl rfl (by omega)) ?_
    refine yA rfl rfl ?_
    refine yN ?_
    dsimp only [St.put]
    refine K12 _ ?_
    refine yR ?_
    refine aa rfl (br rfl rfl rfl (by omega)) ?_
    refine yM rfl rfl ?_
    refine yN ?_
    dsimp only [St.put]
    have e := pv p.text x (k := k) hn
    first
    | (rw [hpg, cond_true] at e
       rw [show ((dr p.text x (ec p.text k c.lines n) : Nat) : Int) + (l.length : Int) = ((dr p.text x (ec p.text k c.lines (n + 1)) : Nat) : Int) by rw [e]; rfl]
       exact ⟨n + 1, by omega, by omega, ⟨⟨rfl, rfl⟩, zF, zB, zN, zX⟩⟩)
    | (rw [hpn, cond_false] at e
       rw [show dr p.text x (ec p.text k c.lines n) = dr p.text x (ec p.text k c.lines (n + 1)) from e.symm]
       exact ⟨n + 1, by omega, by omega, ⟨⟨rfl, rfl⟩, zF, zB, zN, zX⟩⟩)
   have hpn : inB ((fh p.text k : Int) + (n : Int)) x.fr x.to = false := by rw [er] at hc; exact hc
   refine av ?_
   refine K12 _ ?_
   refine yR ?_
   refine aa rfl (br rfl rfl rfl (by omega)) ?_
   refine yM rfl rfl ?_
   refine yN ?_
   dsimp only [St.put]
   have e := pv p.text x (k := k) hn
   first
   | (rw [hpg, cond_true] at e
      rw [show ((dr p.text x (ec p.text k c.lines n) : Nat) : Int) + (l.length : Int) = ((dr p.text x (ec p.text k c.lines (n + 1)) : Nat) : Int) by rw [e]; rfl]
      exact ⟨n + 1, by omega, by omega, ⟨⟨rfl, rfl⟩, zF, zB, zN, zX⟩⟩)
   | (rw [hpn, cond_false] at e
      rw [show dr p.text x (ec p.text k c.lines n) = dr p.text x (ec p.text k c.lines (n + 1)) from e.symm]
      exact ⟨n + 1, by omega, by omega, ⟨⟨rfl, rfl⟩, zF, zB, zN, zX⟩⟩)
  replace hc := of_decide_eq_false hc
  refine cr ?_
  refine K7 _ ?_
  refine yR ?_
  refine aa rfl (br rfl rfl rfl (by omega)) ?_
  refine yM rfl rfl ?_
  refine yN ?_
  dsimp only [St.put]
  rw [vx (n := n) hcx (by omega)]
  exact ⟨k + 1, by omega, by omega, ⟨⟨rfl, rfl⟩, zF, zB, zN, zX⟩⟩
 replace hc := of_decide_eq_false hc
 obtain rfl : k = p.text.length := by omega
 rw [List.take_length, wc]
 refine cr ?_
 refine K3 _ ?_
 refine yS fun _ K15 => ?_
 refine yR ?_
 try dsimp only [St.put]
 refine af rfl (qv (α := PlaceD) rfl ?_)
 refine yA rfl rfl ?_
 refine yN ?_
 dsimp only [St.put]
 refine K15 _ ?_
 refine yS fun _ K16 => ?_
 refine yS fun _ K17 => ?_
 refine yR ?_
 refine yF rfl rfl rfl rfl ?_
 refine yL rfl rfl rfl ?_
 refine aa rfl (bg rfl rfl (List.length_map _)) ?_
 refine yM rfl rfl ?_
 refine yN ?_
 dsimp only [St.put]
 refine K17 _ ?_
 refine az ?_
 refine cj 62 ?_
 refine zQ ?_
 refine db ((ai G nx (fe Tryd.prog 54 (0) ((fun _ => none))))) zX ?_
 dsimp only
 refine c7 (X := Nat) (fun k => k ≤ x.found.length) (fun k => x.found.length - k) (fun k => [(13, .any), (61, .v (.int .i64 (k : Int)))]) (fun k G' => (ai G nx (fe Tryd.prog 54 (k) ((ed fun q => decide (q ∈ x.found.take k)))))) 0 rfl ?_ ?_ ?_ ?_ ?_ ?_
 ·exact Nat.zero_le _
 ·exact zF
 ·rw [show (ed fun q => decide (q ∈ x.found.take 0)) = fun _ => none from xa]
  exact zX
 ·rintro k hI
  exact (by (try dsimp only); repeat' (first | exact trivial | refine ⟨?_, ?_⟩ | exact .v | exact .any | refine .elem ?_ | exact ar _ _ | exact c6 _ _ | exact cw _ _ | exact cy _ (by (try dsimp only); omega) | exact .box (by (try dsimp only); omega) | exact c5 | exact cg | exact ei (f9 _ _) | refine c4 ?_ ?_ | exact .arr (by (try dsimp only); omega) | exact .own (by (try dsimp only); omega) | exact .map (by (try dsimp only); omega) | exact cc _ | refine bk ?_ ?_ | exact ar _ _))
 ·rintro k hI
  exact (by (repeat' (refine et ?_ (by (try dsimp only); omega) ?_)); all_goals (first | exact fq zS | (repeat' (first | exact trivial | refine ⟨?_, ?_⟩ | exact .v | exact .any | refine .elem ?_ | exact ar _ _ | exact c6 _ _ | exact cw _ _ | exact cy _ (by (try dsimp only); omega) | exact .box (by (try dsimp only); omega) | exact c5 | exact cg | exact ei (f9 _ _) | refine c4 ?_ ?_ | exact .arr (by (try dsimp only); omega) | exact .own (by (try dsimp only); omega) | exact .map (by (try dsimp only); omega) | exact cc _ | refine bk ?_ ?_ | exact ar _ _))))
 rintro k hK
 dsimp only at hK ⊢
 refine yS fun _ K18 => ?_
 refine yR ?_
 refine aa rfl (cn rfl rfl rfl) ?_
 refine yN ?_
 dsimp only [St.put]
 refine K18 _ ?_
 refine yS fun _ K19 => ?_
 refine ak rfl (fun hc => ?_) (fun hc => ?_)
 ·replace hc := of_decide_eq_true hc
  obtain ⟨q, hq⟩ : ∃ q, x.found[k]? = some q := cx (by omega)
  refine av ?_
  refine K19 _ ?_
  refine yS fun _ K20 => ?_
  refine az ?_
  refine yS fun _ K21 => ?_
  refine yR ?_
  refine aa rfl (bl rfl rfl rfl rfl (bn (by assumption)) (Enc.len _)) ?_
  refine yE rfl rfl rfl ?_
  try dsimp only [St.put]
  refine af rfl (eh rfl ?_)
  try dsimp only [St.put]
  refine af rfl (dt rfl rfl rfl zG rfl rfl (by rfl) ?_)
  refine yN ?_
  dsimp only [St.put]
  refine K21 _ ?_
  refine eo (i := 13) rfl zG zC ?_
  dsimp only
  refine yR ?_
  refine yM rfl rfl ?_
  refine yE rfl rfl rfl ?_
  try dsimp only [St.put]
  refine af rfl (lk (q) rfl rfl rfl zG rfl (xb hq) ?_)
  refine yN ?_
  dsimp only [St.put]
  refine K20 _ ?_
  refine yR ?_
  refine aa rfl (br rfl rfl rfl (by omega)) ?_
  refine yM rfl rfl ?_
  refine yN ?_
  dsimp only [St.put]
  exact ⟨k + 1, by omega, by omega, ⟨⟨rfl, rfl⟩, zF, zB, zN, zX⟩⟩
 replace hc := of_decide_eq_false hc
 obtain rfl : k = x.found.length := by omega
 rw [List.take_length, show (fun q => decide (q ∈ x.found)) = dz x.found (x.well.take 0) from funext fun q => (xc x.found q).symm]
 refine cr ?_
 refine K16 _ ?_
 refine yS fun _ K22 => ?_
 by_cases hB : bf p.text x = []
 ·refine yR ?_
  refine yA rfl rfl ?_
  refine yN ?_
  dsimp only [St.put]
  refine K22 _ ?_
  refine yS fun _ K23 => ?_
  refine yS fun _ K24 => ?_
  refine yR ?_
  refine yF rfl rfl rfl rfl ?_
  refine yL rfl rfl rfl ?_
  refine aa rfl (bg rfl rfl (List.length_map _)) ?_
  refine yM rfl rfl ?_
  refine yN ?_
  dsimp only [St.put]
  refine K24 _ ?_
  refine az ?_
  refine cj 72 ?_
  refine zQ ?_
  refine db ((ai G nx (fe Tryd.prog 54 (x.found.length) ((ed (dz x.found (x.well.take 0))))))) zX ?_
  dsimp only
  refine c7 (X := Nat) (fun k => k ≤ x.well.length) (fun k => x.well.length - k) (fun k => [(16, .any), (71, .v (.int .i64 (k : Int)))]) (fun k G' => (ai G nx (fe Tryd.prog 54 ((x.found.length + k)) ((ed (dz x.found (x.well.take k))))))) 0 rfl ?_ ?_ ?_ ?_ ?_ ?_
  ·exact Nat.zero_le _
  ·exact zF
  ·exact zX
  ·rintro k hI
   exact (by (try dsimp only); repeat' (first | exact trivial | refine ⟨?_, ?_⟩ | exact .v | exact .any | refine .elem ?_ | exact ar _ _ | exact c6 _ _ | exact cw _ _ | exact cy _ (by (try dsimp only); omega) | exact .box (by (try dsimp only); omega) | exact c5 | exact cg | exact ei (f9 _ _) | refine c4 ?_ ?_ | exact .arr (by (try dsimp only); omega) | exact .own (by (try dsimp only); omega) | exact .map (by (try dsimp only); omega) | exact cc _ | refine bk ?_ ?_ | exact ar _ _))
  ·rintro k hI
   exact (by (repeat' (refine et ?_ (by (try dsimp only); omega) ?_)); all_goals (first | exact fq zS | (repeat' (first | exact trivial | refine ⟨?_, ?_⟩ | exact .v | exact .any | refine .elem ?_ | exact ar _ _ | exact c6 _ _ | exact cw _ _ | exact cy _ (by (try dsimp only); omega) | exact .box (by (try dsimp only); omega) | exact c5 | exact cg | exact ei (f9 _ _) | refine c4 ?_ ?_ | exact .arr (by (try dsimp only); omega) | exact .own (by (try dsimp only); omega) | exact .map (by (try dsimp only); omega) | exact cc _ | refine bk ?_ ?_ | exact ar _ _))))
  rintro k hK
  dsimp only at hK ⊢
  refine yS fun _ K25 => ?_
  refine yR ?_
  refine aa rfl (cn rfl rfl rfl) ?_
  refine yN ?_
  dsimp only [St.put]
  refine K25 _ ?_
  refine yS fun _ K26 => ?_
  refine ak rfl (fun hc => ?_) (fun hc => ?_)
  ·replace hc := of_decide_eq_true hc
   obtain ⟨q, hq⟩ : ∃ q, x.well[k]? = some q := cx (by omega)
   have hbt := ra x.found x.well k
   refine av ?_
   refine K26 _ ?_
   refine yS fun _ K27 => ?_
   refine az ?_
   refine yS fun _ K28 => ?_
   refine yR ?_
   refine aa rfl (bl rfl rfl rfl rfl (bn (by assumption)) (Enc.len _)) ?_
   refine yE rfl rfl rfl ?_
   try dsimp only [St.put]
   refine af rfl (eh rfl ?_)
   try dsimp only [St.put]
   refine af rfl (dt rfl rfl rfl zG rfl rfl (by rfl) ?_)
   refine yN ?_
   dsimp only [St.put]
   refine K28 _ ?_
   refine eo (i := 16) rfl zG zC ?_
   dsimp only
   refine yS fun _ K29 => ?_
   refine yR ?_
   refine yM rfl rfl ?_
   refine yE rfl rfl rfl ?_
   try dsimp only [St.put]
   refine du rfl (na q rfl rfl zG trivial rfl (qg _ _)) ?_
   refine yN ?_
   dsimp only [St.put]
   refine K29 _ ?_
   refine ak rfl (fun hc => ?_) (fun hc => ?_)
   ·have hin : q ∈ x.found := by
     rw [ld hnd2 hq] at hc
     exact of_decide_eq_true hc
    refine yS fun _ K30 => ?_
    refine yR ?_
    refine yM rfl rfl ?_
    refine yE rfl rfl rfl ?_
    try dsimp only [St.put]
    refine af rfl (ef rfl rfl rfl (by decide) (by decide) zR (by decide) ?_)
    try dsimp only [St.put]
    refine af rfl (sx rfl rfl (.inr rfl) rfl (show 1 ≤ 3 by decide) (fun r hr => by rw [List.mem_singleton] at hr; subst hr; rfl) (by simp) (by simp) ?_)
    refine yA rfl rfl ?_
    refine yN ?_
    dsimp only [St.put]
    refine K30 _ ?_
    refine yR ?_
    refine yM rfl rfl ?_
    refine yE rfl rfl rfl ?_
    try dsimp only [St.put]
    refine af rfl (qw q rfl rfl zG rfl (qf hnd2 hq hin) ?_)
    refine yN ?_
    dsimp only [St.put]
    refine K27 _ ?_
    refine yR ?_
    refine aa rfl (br rfl rfl rfl (by omega)) ?_
    refine yM rfl rfl ?_
    refine yN ?_
    dsimp only [St.put]
    first
    | exact absurd (show q ∈ x.found from hin) (qy hp hB hq)
    | exact ⟨k + 1, by omega, by omega, ⟨⟨rfl, rfl⟩, zF, zB, zN, zX⟩⟩
   have hout : q ∉ x.found := by
    rw [ld hnd2 hq] at hc
    exact of_decide_eq_false hc
   refine yR ?_
   refine yM rfl rfl ?_
   refine yE rfl rfl rfl ?_
   try dsimp only [St.put]
   refine af rfl (lk (q) rfl rfl rfl zG rfl (qe hnd2 hq hout) ?_)
   refine yN ?_
   dsimp only [St.put]
   refine K27 _ ?_
   refine yR ?_
   refine aa rfl (br rfl rfl rfl (by omega)) ?_
   refine yM rfl rfl ?_
   refine yN ?_
   dsimp only [St.put]
   first
   | exact absurd (show q ∈ x.found from hin) (qy hp hB hq)
   | exact ⟨k + 1, by omega, by omega, ⟨⟨rfl, rfl⟩, zF, zB, zN, zX⟩⟩
  replace hc := of_decide_eq_false hc
  obtain rfl : k = x.well.length := by omega
  refine cr ?_
  refine K23 _ ?_
  refine yS fun _ K31 => ?_
  refine yR ?_
  refine yM rfl rfl ?_
  try dsimp only [St.put]
  refine af rfl (ba rfl rfl rfl (yj) ?_)
  refine yA rfl rfl ?_
  refine yN ?_
  dsimp only [St.put]
  refine K31 _ ?_
  refine re 17 54 3 rfl (by decide) ?_
  dsimp only
  refine yS fun _ K32 => ?_
  refine yS fun _ K33 => ?_
  refine yR ?_
  refine yM rfl rfl ?_
  try dsimp only [St.put]
  refine af rfl (qt rfl rfl zG fun r β cl ks hnd hks0 hinj => ?_)
  refine yN ?_
  dsimp only [St.put]
  refine K33 _ ?_
  rw [hmw] at hks0
  rw [hmw]
  refine az ?_
  refine cj 91 ?_
  refine zQ ?_
  refine db (ai (ai (ai (ai G nx (ji Tryd.prog 54 (x.found.length + x.well.length) (ed (dz x.found x.well)) β cl)) (nx + 1) (.arr 0 0 54 3 0 [])) (nx + 1 + 1) (.raw 0 (.mapIter (some r) cl (gl β ([] : List PlaceD)) cl))) (nx + 1 + 1 + 1) (.fact (.map (some r)) (.map nx))) zX ?_
  dsimp only
  refine c7 (X := List PlaceD × Nat × Nat × Nat) (fun y => (∀ z ∈ y.1, z ∈ ks) ∧ y.1.Nodup) (fun y => nl ks y.1) (fun y => [(17, .own (nx + 1) y.2.2.1 (([] : List PlaceD) ++ y.1).length), (18, .any)]) (fun y G' => (ai (ai (ai (ai G nx (ji Tryd.prog 54 ((x.found.length + x.well.length)) (ed ((dz x.found x.well))) β cl)) ((nx + 1)) (.arr y.2.2.1 y.2.2.2 54 3 ((([] : List PlaceD) ++ y.1)).length (ci ((([] : List PlaceD) ++ y.1))))) ((nx + 1 + 1)) (.raw y.2.1 (.mapIter (some r) cl (gl β y.1) cl))) ((nx + 1 + 1 + 1)) (.fact (.map (some r)) (.map nx)))) ([], 0, 0, 0) rfl ?_ ?_ ?_ ?_ ?_ ?_
  ·exact ⟨fun z hz => by simp at hz, List.nodup_nil⟩
  ·exact zF
  ·exact zX
  ·rintro ⟨done, wi, vl, wv⟩ hI
   exact (by (try dsimp only); repeat' (first | exact trivial | refine ⟨?_, ?_⟩ | exact .v | exact .any | refine .elem ?_ | exact ar _ _ | exact c6 _ _ | exact cw _ _ | exact cy _ (by (try dsimp only); omega) | exact .box (by (try dsimp only); omega) | exact c5 | exact cg | exact lj (f9 _ _) | exact cc _ | refine c4 ?_ ?_ | exact .arr (by (try dsimp only); omega) | exact .own (by (try dsimp only); omega) | exact .map (by (try dsimp only); omega) | exact cc _ | refine bk ?_ ?_ | exact ar _ _))
  ·rintro ⟨done, wi, vl, wv⟩ hI
   exact (by (repeat' (refine et ?_ (by (try dsimp only); omega) ?_)); all_goals (first | exact fq zS | (repeat' (first | exact trivial | refine ⟨?_, ?_⟩ | exact .v | exact .any | refine .elem ?_ | exact ar _ _ | exact c6 _ _ | exact cw _ _ | exact cy _ (by (try dsimp only); omega) | exact .box (by (try dsimp only); omega) | exact c5 | exact cg | exact lj (f9 _ _) | exact cc _ | refine c4 ?_ ?_ | exact .arr (by (try dsimp only); omega) | exact .own (by (try dsimp only); omega) | exact .map (by (try dsimp only); omega) | exact cc _ | refine bk ?_ ?_ | exact ar _ _))))
  rintro ⟨done, wi, vl, wv⟩ hI8
  dsimp only at hI8 ⊢
  refine yS fun _ K34 => ?_
  refine yR ?_
  try dsimp only [St.put]
  refine af rfl (qu (done := done) rfl rfl zG zG zG (hks0) (hinj) (hI8.1) (fun hend => ?_) (fun y c hym hyk hyd => ?_))
  ·have hdl := k8 hp hI8.2 (fun q hq => onceM_ne.1 ((hks0 q).2 (hI8.1 q hq)))
   have hdk : ∀ q, q ∈ done ↔ dz x.found x.well q = true := fun q => ⟨fun hq => onceM_ne.1 ((hks0 q).2 (hI8.1 q hq)), fun hq => hend q ((hks0 q).1 (onceM_ne.2 hq))⟩
   have hpb := qd hp ht (fun q hq => (hdk q).1 hq)
   refine yX rfl rfl rfl rfl ?_
   refine yN ?_
   dsimp only [St.put]
   refine K34 _ ?_
   refine yS fun _ K35 => ?_
   refine ak rfl (fun h => by cases h) (fun _ => ?_)
   refine cr ?_
   refine K32 _ ?_
   refine yS fun _ K36 => ?_
   have hpb2 : ∀ y ∈ ([] : List PlaceD) ++ done, PBd9 y := fun y hy => hpb y (by simpa using hy)
   refine yR ?_
   refine yM rfl rfl ?_
   try dsimp only [St.put]
   refine af rfl (qs pz PBd9 ig rfl rfl rfl rfl zG rfl rfl rfl (fun y hy => hy.plain) hpb2 (by first | (rw [List.length_append]; omega) | (simp only [List.nil_append]; omega)) (fun a b _ _ => ov a b _ _) qc (fun ys hperm hsort => ?_))
   refine yN ?_
   dsimp only [St.put]
   have hlen := hperm.length_eq
   rw [← hB] at hperm hlen
   obtain rfl := rg hp hI8.2 hdk hperm hsort
   refine K36 _ ?_
   refine re 14 54 3 rfl (by decide) ?_
   dsimp only
   rw [show (([] : List PlaceD) ++ done).length = (ca p.text x).length by rw [hlen, hB]]
   refine rc [(0, none), (1, none), (2, none), (3, none), (4, none), (5, none), (6, none), (7, none), (10, none), (11, none), (12, none), (13, none), (14, none), (17, none), (18, none), (19, none), (20, none), (21, none)] (fun i => [23, 26, 29, 32].contains i) (fun i => [0, 1, 2, 3, 4, 5, 7, 10, 11, 12, 14, 17, 18, 19, 21].contains i) 15 (rl [8, 2, 5, 2, 5, 11]) [nB] (by kernel_rfl) (by kernel_rfl) ?_
   refine xM rfl rfl rfl rfl rfl ?_
   refine xM rfl rfl rfl rfl rfl ?_
   refine xM rfl rfl rfl rfl rfl ?_
   refine xM rfl rfl rfl rfl rfl ?_
   refine ae rfl rfl rfl rfl (fb rfl rfl) ?_
   refine ae rfl rfl rfl rfl (dj rfl rfl) ?_
   try dsimp only [St.put]
   refine aw rfl rfl rfl rfl (gg rfl rfl zG (by simp) (by first | rfl | assumption)) ?_
   refine xM rfl rfl rfl rfl rfl ?_
   refine xM rfl rfl rfl rfl rfl ?_
   refine ae rfl rfl rfl rfl (fb rfl rfl) ?_
   refine ae rfl rfl rfl rfl (dj rfl rfl) ?_
   try dsimp only [St.put]
   refine aw rfl rfl rfl rfl (gg rfl rfl zG (by simp) (by first | rfl | assumption)) ?_
   refine xM rfl rfl rfl rfl rfl ?_
   refine xM rfl rfl rfl rfl rfl ?_
   refine ae rfl rfl rfl rfl (fb rfl rfl) ?_
   refine ae rfl rfl rfl rfl (dj rfl rfl) ?_
   try dsimp only [St.put]
   refine aw rfl rfl rfl rfl (gg rfl rfl zG (by simp) (by first | rfl | assumption)) ?_
   refine xM rfl rfl rfl rfl rfl ?_
   refine bq ⟨zD, ?_⟩
   dsimp only [St.put]
   refine vz ws al bo hra hrb (dw p.text x : Int) (.own (nx + 1) _ (ca p.text x).length) (.own (nx + 1 + 1 + 1 + 1) 0 0) rfl rfl nB a1 a2 a3 _ rfl (by kernel_rfl) (by kernel_rfl) (by kernel_rfl) rfl rfl rfl rfl rfl rfl rfl rfl rfl rfl rfl rfl rfl zG zG zG zG d1 d2 d3 d4 d5 d6 hw ha hb ?_
   dsimp only
   refine je [(24, none), (25, none)] 7 (rl [26, 7]) (by kernel_rfl) ?_
   refine ae rfl rfl rfl rfl (fb rfl rfl) ?_
   refine ae rfl rfl rfl rfl (dj rfl rfl) ?_
   refine bq ⟨zD, ?_⟩
   refine iz [26] (by kernel_rfl) (by simp) ?_
   refine jd ?_ ?_
   ·try dsimp only [St.put]
    refine jb rfl rfl rfl rfl (iw rfl rfl rfl zG (by constructor) rfl zO ?_)
    refine je [(27, none), (28, none)] 4 (rl [29, 4]) (by kernel_rfl) ?_
    refine ae rfl rfl rfl rfl (fb rfl rfl) ?_
    refine ae rfl rfl rfl rfl (dj rfl rfl) ?_
    refine bq ⟨zD, ?_⟩
    refine iz [29] (by kernel_rfl) (by simp) ?_
    refine jd ?_ ?_
    ·try dsimp only [St.put]
     refine jb rfl rfl rfl rfl (iw rfl rfl rfl zG (by constructor) rfl zO ?_)
     refine je [(30, none), (31, none)] 1 (rl [32, 1]) (by kernel_rfl) ?_
     refine ae rfl rfl rfl rfl (fb rfl rfl) ?_
     refine ae rfl rfl rfl rfl (dj rfl rfl) ?_
     refine bq ⟨zD, ?_⟩
     refine iz [32] (by kernel_rfl) (by simp) ?_
     refine jd ?_ ?_
     ·try dsimp only [St.put]
      refine jb rfl rfl rfl rfl (iw rfl rfl rfl zG (by constructor) rfl zO ?_)
      dsimp only [St.put]
      refine ri (by kernel_rfl) ?_
      rw [hB]
      refine ⟨(nx + 1, vl, wv + 1, nx + 1 + 1 + 1 + 1, 0, 0), ⟨⟨by (dsimp only; omega), by (dsimp only; omega)⟩, ⟨by (dsimp only; omega), by (dsimp only; omega)⟩, by (dsimp only; omega)⟩, ?_⟩
      refine qr rfl (.inl rfl) zN (px zG zG zG zG fun n o q1 q2 q3 q4 h => tl h zG fun q5 h => tl h zG fun q6 h => ?_)
      have hn := hlt n o h
      (try dsimp only)
      repeat (first | exact h | rw [cm (by omega)] | rw [jk (by omega)])
     exact jc
    exact jc
   exact jc
  have hz0 := ph hym
  subst hz0
  obtain ⟨z, hz⟩ : ∃ z, z = y := ⟨_, rfl⟩
  subst hz
  have hIn : ∀ z ∈ ks, ∀ x ∈ done ++ [z], x ∈ ks := fun z hz x hx => by
   rcases List.mem_append.1 hx with hx | hx
   ·exact hI8.1 x hx
   rw [List.mem_singleton] at hx; exact hx ▸ hz
  have hIu : ∀ z, z ∉ done → (done ++ [z]).Nodup := fun z hz => List.nodup_append.2 ⟨hI8.2, by simp, fun a ha b hb => by
   rw [List.mem_singleton] at hb; subst hb; exact fun e => hz (e ▸ ha)⟩
  have hdl := k8 hp hI8.2 (fun q hq => onceM_ne.1 ((hks0 q).2 (hI8.1 q hq)))
  refine yX rfl rfl rfl rfl ?_
  refine yN ?_
  dsimp only [St.put]
  refine K34 _ ?_
  refine yS fun _ K37 => ?_
  refine ak rfl (fun _ => ?_) (fun h => by cases h)
  refine av ?_
  refine K37 _ ?_
  refine az ?_
  refine yS fun _ K38 => ?_
  refine yR ?_
  try dsimp only [St.put]
  refine du rfl (p8 (fx := nx + 1 + 1 + 1) (n := nx) rfl rfl zG trivial zG zG trivial (by assumption)) ?_
  refine yX rfl rfl rfl rfl ?_
  try dsimp only [St.put]
  refine af rfl (eh rfl ?_)
  try dsimp only [St.put]
  refine af rfl (dt rfl rfl rfl zG rfl rfl (by rfl) ?_)
  refine yN ?_
  dsimp only [St.put]
  refine K38 _ ?_
  refine eo (i := 18) rfl zG zC ?_
  dsimp only
  refine yR ?_
  refine yM rfl rfl ?_
  try dsimp only [St.put]
  refine du rfl (d9 rfl rfl rfl) ?_
  try dsimp only [St.put]
  refine af rfl (ef rfl rfl rfl (by decide) (by decide) zR (by decide) ?_)
  try dsimp only [St.put]
  refine af rfl (ki (xs := ([] : List PlaceD) ++ done) [z] rfl rfl zG rfl rfl rfl rfl zA zA (fun v3 => ?_))
  refine yA rfl rfl ?_
  refine yN ?_
  dsimp only [St.put]
  simp only [List.append_assoc]
  exact ⟨(done ++ [z], wi + 1, v3, wv), ql hyk hyd, ⟨hIn z hyk, hIu z hyd⟩, ⟨⟨rfl, rfl⟩, zF, zB, zN, zX⟩⟩
 refine yR ?_
 refine yA rfl rfl ?_
 refine yN ?_
 dsimp only [St.put]
 refine K22 _ ?_
 refine re 14 54 3 rfl (by decide) ?_
 dsimp only
 refine yS fun _ K39 => ?_
 refine yS fun _ K40 => ?_
 refine yR ?_
 refine yF rfl rfl rfl rfl ?_
 refine yL rfl rfl rfl ?_
 refine aa rfl (bg rfl rfl (List.length_map _)) ?_
 refine yM rfl rfl ?_
 refine yN ?_
 dsimp only [St.put]
 refine K40 _ ?_
 refine az ?_
 refine cj 72 ?_
 refine zQ ?_
 refine db (ai ((ai G nx (fe Tryd.prog 54 (x.found.length) ((ed (dz x.found (x.well.take 0))))))) (nx + 1) (.arr 0 0 54 3 0 [])) zX ?_
 dsimp only
 refine c7 (X := Nat × Nat) (fun y => y.1 ≤ x.well.length) (fun y => x.well.length - y.1) (fun y => [(14, .own (nx + 1) y.2 (jm x.found x.well y.1).length), (16, .any), (71, .v (.int .i64 (y.1 : Int)))]) (fun y G' => ai ((ai G nx (fe Tryd.prog 54 ((x.found.length + y.1)) ((ed (dz x.found (x.well.take y.1))))))) (nx + 1) (.arr y.2 0 54 3 (jm x.found x.well y.1).length (ci (jm x.found x.well y.1)))) (0, 0) rfl ?_ ?_ ?_ ?_ ?_ ?_
 ·exact Nat.zero_le _
 ·exact zF
 ·exact zX
 ·rintro ⟨k, vb⟩ hI
  exact (by (try dsimp only); repeat' (first | exact trivial | refine ⟨?_, ?_⟩ | exact .v | exact .any | refine .elem ?_ | exact ar _ _ | exact c6 _ _ | exact cw _ _ | exact cy _ (by (try dsimp only); omega) | exact .box (by (try dsimp only); omega) | exact c5 | exact cg | exact ei (f9 _ _) | exact cc _ | refine c4 ?_ ?_ | exact .arr (by (try dsimp only); omega) | exact .own (by (try dsimp only); omega) | exact .map (by (try dsimp only); omega) | exact cc _ | refine bk ?_ ?_ | exact ar _ _))
 ·rintro ⟨k, vb⟩ hI
  exact (by (repeat' (refine et ?_ (by (try dsimp only); omega) ?_)); all_goals (first | exact fq zS | (repeat' (first | exact trivial | refine ⟨?_, ?_⟩ | exact .v | exact .any | refine .elem ?_ | exact ar _ _ | exact c6 _ _ | exact cw _ _ | exact cy _ (by (try dsimp only); omega) | exact .box (by (try dsimp only); omega) | exact c5 | exact cg | exact ei (f9 _ _) | exact cc _ | refine c4 ?_ ?_ | exact .arr (by (try dsimp only); omega) | exact .own (by (try dsimp only); omega) | exact .map (by (try dsimp only); omega) | exact cc _ | refine bk ?_ ?_ | exact ar _ _))))
 rintro ⟨k, vb⟩ hK
 dsimp only at hK ⊢
 refine yS fun _ K41 => ?_
 refine yR ?_
 refine aa rfl (cn rfl rfl rfl) ?_
 refine yN ?_
 dsimp only [St.put]
 refine K41 _ ?_
 refine yS fun _ K42 => ?_
 refine ak rfl (fun hc => ?_) (fun hc => ?_)
 ·replace hc := of_decide_eq_true hc
  obtain ⟨q, hq⟩ : ∃ q, x.well[k]? = some q := cx (by omega)
  have hbt := ra x.found x.well k
  refine av ?_
  refine K42 _ ?_
  refine yS fun _ K43 => ?_
  refine az ?_
  refine yS fun _ K44 => ?_
  refine yR ?_
  refine aa rfl (bl rfl rfl rfl rfl (bn (by assumption)) (Enc.len _)) ?_
  refine yE rfl rfl rfl ?_
  try dsimp only [St.put]
  refine af rfl (eh rfl ?_)
  try dsimp only [St.put]
  refine af rfl (dt rfl rfl rfl zG rfl rfl (by rfl) ?_)
  refine yN ?_
  dsimp only [St.put]
  refine K44 _ ?_
  refine eo (i := 16) rfl zG zC ?_
  dsimp only
  refine yS fun _ K45 => ?_
  refine yR ?_
  refine yM rfl rfl ?_
  refine yE rfl rfl rfl ?_
  try dsimp only [St.put]
  refine du rfl (na q rfl rfl zG trivial rfl (qg _ _)) ?_
  refine yN ?_
  dsimp only [St.put]
  refine K45 _ ?_
  refine ak rfl (fun hc => ?_) (fun hc => ?_)
  ·have hin : q ∈ x.found := by
    rw [ld hnd2 hq] at hc
    exact of_decide_eq_true hc
   refine yS fun _ K46 => ?_
   refine yR ?_
   refine yM rfl rfl ?_
   refine yE rfl rfl rfl ?_
   try dsimp only [St.put]
   refine af rfl (ef rfl rfl rfl (by decide) (by decide) zR (by decide) ?_)
   try dsimp only [St.put]
   refine af rfl (ki (xs := jm x.found x.well k) [q] rfl rfl zG rfl rfl rfl rfl zA zA (fun v2 => ?_))
   refine yA rfl rfl ?_
   refine yN ?_
   dsimp only [St.put]
   refine K46 _ ?_
   refine yR ?_
   refine yM rfl rfl ?_
   refine yE rfl rfl rfl ?_
   try dsimp only [St.put]
   refine af rfl (qw q rfl rfl zG rfl (qf hnd2 hq hin) ?_)
   refine yN ?_
   dsimp only [St.put]
   refine K43 _ ?_
   refine yR ?_
   refine aa rfl (br rfl rfl rfl (by omega)) ?_
   refine yM rfl rfl ?_
   refine yN ?_
   dsimp only [St.put]
   have e := qz (F := x.found) hq
   first
   | (have hi : q ∈ x.found := hin
      rw [decide_eq_true hi, cond_true] at e
      simp only [← e]
      exact ⟨(k + 1, v2), by (dsimp only; omega), by (dsimp only; omega), ⟨⟨rfl, rfl⟩, zF, zB, zN, zX⟩⟩)
   | (have hi : q ∉ x.found := hout
      rw [decide_eq_false hi, cond_false, List.append_nil] at e
      simp only [← e]
      exact ⟨(k + 1, vb), by (dsimp only; omega), by (dsimp only; omega), ⟨⟨rfl, rfl⟩, zF, zB, zN, zX⟩⟩)
  have hout : q ∉ x.found := by
   rw [ld hnd2 hq] at hc
   exact of_decide_eq_false hc
  refine yR ?_
  refine yM rfl rfl ?_
  refine yE rfl rfl rfl ?_
  try dsimp only [St.put]
  refine af rfl (lk (q) rfl rfl rfl zG rfl (qe hnd2 hq hout) ?_)
  refine yN ?_
  dsimp only [St.put]
  refine K43 _ ?_
  refine yR ?_
  refine aa rfl (br rfl rfl rfl (by omega)) ?_
  refine yM rfl rfl ?_
  refine yN ?_
  dsimp only [St.put]
  have e := qz (F := x.found) hq
  first
  | (have hi : q ∈ x.found := hin
     rw [decide_eq_true hi, cond_true] at e
     simp only [← e]
     exact ⟨(k + 1, v2), by (dsimp only; omega), by (dsimp only; omega), ⟨⟨rfl, rfl⟩, zF, zB, zN, zX⟩⟩)
  | (have hi : q ∉ x.found := hout
     rw [decide_eq_false hi, cond_false, List.append_nil] at e
     simp only [← e]
     exact ⟨(k + 1, vb), by (dsimp only; omega), by (dsimp only; omega), ⟨⟨rfl, rfl⟩, zF, zB, zN, zX⟩⟩)
 replace hc := of_decide_eq_false hc
 obtain rfl : k = x.well.length := by omega
 rw [yn hp]
 refine cr ?_
 refine K39 _ ?_
 refine yS fun _ K47 => ?_
 refine yR ?_
 refine yM rfl rfl ?_
 try dsimp only [St.put]
 refine af rfl (sv rfl rfl rfl (uik (bf p.text x) hB (by omega) (nx + 1) vb 0 _ _ zG) ?_)
 refine yA rfl rfl ?_
 refine yN ?_
 dsimp only [St.put]
 refine K47 _ ?_
 refine yS fun _ K48 => ?_
 refine yS fun _ K49 => ?_
 refine yR ?_
 refine yM rfl rfl ?_
 try dsimp only [St.put]
 refine af rfl (qt rfl rfl zG fun r β cl ks hnd hks0 hinj => ?_)
 refine yN ?_
 dsimp only [St.put]
 refine K49 _ ?_
 rw [hmw] at hks0
 rw [hmw]
 refine az ?_
 refine cj 91 ?_
 refine zQ ?_
 refine db (ai (ai (ai (ai (ai G (nx + 1) (.arr vb 0 54 3 (bf p.text x).length (ci (bf p.text x)))) nx (ji Tryd.prog 54 (x.found.length + x.well.length) (ed (dz x.found x.well)) β cl)) (nx + 1 + 1) (.arr 0 0 54 3 (bf p.text x).length (ci (bf p.text x)))) (nx + 1 + 1 + 1) (.raw 0 (.mapIter (some r) cl (gl β ([] : List PlaceD)) cl))) (nx + 1 + 1 + 1 + 1) (.fact (.map (some r)) (.map nx))) zX ?_
 dsimp only
 refine c7 (X := List PlaceD × Nat × Nat × Nat) (fun y => (∀ z ∈ y.1, z ∈ ks) ∧ y.1.Nodup) (fun y => nl ks y.1) (fun y => [(17, .own (nx + 1 + 1) y.2.2.1 (bf p.text x ++ y.1).length), (18, .any)]) (fun y G' => (ai (ai (ai (ai (ai G (nx + 1) (.arr vb 0 54 3 (bf p.text x).length (ci (bf p.text x)))) nx (ji Tryd.prog 54 ((x.found.length + x.well.length)) (ed ((dz x.found x.well))) β cl)) ((nx + 1 + 1)) (.arr y.2.2.1 y.2.2.2 54 3 ((bf p.text x ++ y.1)).length (ci ((bf p.text x ++ y.1))))) ((nx + 1 + 1 + 1)) (.raw y.2.1 (.mapIter (some r) cl (gl β y.1) cl))) ((nx + 1 + 1 + 1 + 1)) (.fact (.map (some r)) (.map nx)))) ([], 0, 0, 0) rfl ?_ ?_ ?_ ?_ ?_ ?_
 ·exact ⟨fun z hz => by simp at hz, List.nodup_nil⟩
 ·simp only [List.append_nil]
  exact zF
 ·simp only [List.append_nil]
  exact zX
 ·rintro ⟨done, wi, vl, wv⟩ hI
  exact (by (try dsimp only); repeat' (first | exact trivial | refine ⟨?_, ?_⟩ | exact .v | exact .any | refine .elem ?_ | exact ar _ _ | exact c6 _ _ | exact cw _ _ | exact cy _ (by (try dsimp only); omega) | exact .box (by (try dsimp only); omega) | exact c5 | exact cg | exact lj (f9 _ _) | exact cc _ | refine c4 ?_ ?_ | exact .arr (by (try dsimp only); omega) | exact .own (by (try dsimp only); omega) | exact .map (by (try dsimp only); omega) | exact cc _ | refine bk ?_ ?_ | exact ar _ _))
 ·rintro ⟨done, wi, vl, wv⟩ hI
  exact (by (repeat' (refine et ?_ (by (try dsimp only); omega) ?_)); all_goals (first | exact fq zS | (repeat' (first | exact trivial | refine ⟨?_, ?_⟩ | exact .v | exact .any | refine .elem ?_ | exact ar _ _ | exact c6 _ _ | exact cw _ _ | exact cy _ (by (try dsimp only); omega) | exact .box (by (try dsimp only); omega) | exact c5 | exact cg | exact lj (f9 _ _) | exact cc _ | refine c4 ?_ ?_ | exact .arr (by (try dsimp only); omega) | exact .own (by (try dsimp only); omega) | exact .map (by (try dsimp only); omega) | exact cc _ | refine bk ?_ ?_ | exact ar _ _))))
 rintro ⟨done, wi, vl, wv⟩ hI8
 dsimp only at hI8 ⊢
 refine yS fun _ K50 => ?_
 refine yR ?_
 try dsimp only [St.put]
 refine af rfl (qu (done := done) rfl rfl zG zG zG (hks0) (hinj) (hI8.1) (fun hend => ?_) (fun y c hym hyk hyd => ?_))
 ·have hdl := k8 hp hI8.2 (fun q hq => onceM_ne.1 ((hks0 q).2 (hI8.1 q hq)))
  have hdk : ∀ q, q ∈ done ↔ dz x.found x.well q = true := fun q => ⟨fun hq => onceM_ne.1 ((hks0 q).2 (hI8.1 q hq)), fun hq => hend q ((hks0 q).1 (onceM_ne.2 hq))⟩
  have hpb := qd hp ht (fun q hq => (hdk q).1 hq)
  refine yX rfl rfl rfl rfl ?_
  refine yN ?_
  dsimp only [St.put]
  refine K50 _ ?_
  refine yS fun _ K51 => ?_
  refine ak rfl (fun h => by cases h) (fun _ => ?_)
  refine cr ?_
  refine K48 _ ?_
  refine yS fun _ K52 => ?_
  have hpb2 : ∀ y ∈ bf p.text x ++ done, PBd9 y := fun y hy => by
   rcases List.mem_append.1 hy with hy | hy
   ·exact yo hp ht hy
   exact hpb y hy
  refine yR ?_
  refine yM rfl rfl ?_
  try dsimp only [St.put]
  refine af rfl (qs pz PBd9 ig rfl rfl rfl rfl zG rfl rfl rfl (fun y hy => hy.plain) hpb2 (by first | (rw [List.length_append]; omega) | (simp only [List.nil_append]; omega)) (fun a b _ _ => ov a b _ _) qc (fun ys hperm hsort => ?_))
  refine yN ?_
  dsimp only [St.put]
  have hlen := hperm.length_eq
  obtain rfl := rg hp hI8.2 hdk hperm hsort
  refine K52 _ ?_
  rw [← hlen]
  refine rc [(0, none), (1, none), (2, none), (3, none), (4, none), (5, none), (6, none), (7, none), (10, none), (11, none), (12, none), (13, none), (14, none), (17, none), (18, none), (19, none), (20, none), (21, none)] (fun i => [23, 26, 29, 32].contains i) (fun i => [0, 1, 2, 3, 4, 5, 7, 10, 11, 12, 14, 17, 18, 19, 21].contains i) 15 (rl [8, 2, 5, 2, 5, 11]) [nB] (by kernel_rfl) (by kernel_rfl) ?_
  refine xM rfl rfl rfl rfl rfl ?_
  refine xM rfl rfl rfl rfl rfl ?_
  refine xM rfl rfl rfl rfl rfl ?_
  refine xM rfl rfl rfl rfl rfl ?_
  refine ae rfl rfl rfl rfl (fb rfl rfl) ?_
  refine ae rfl rfl rfl rfl (dj rfl rfl) ?_
  try dsimp only [St.put]
  refine aw rfl rfl rfl rfl (gg rfl rfl zG (by simp) (by first | rfl | assumption)) ?_
  refine xM rfl rfl rfl rfl rfl ?_
  refine xM rfl rfl rfl rfl rfl ?_
  refine ae rfl rfl rfl rfl (fb rfl rfl) ?_
  refine ae rfl rfl rfl rfl (dj rfl rfl) ?_
  try dsimp only [St.put]
  refine aw rfl rfl rfl rfl (gg rfl rfl zG (by simp) (by first | rfl | assumption)) ?_
  refine xM rfl rfl rfl rfl rfl ?_
  refine xM rfl rfl rfl rfl rfl ?_
  refine ae rfl rfl rfl rfl (fb rfl rfl) ?_
  refine ae rfl rfl rfl rfl (dj rfl rfl) ?_
  try dsimp only [St.put]
  refine aw rfl rfl rfl rfl (gg rfl rfl zG (by simp) (by first | rfl | assumption)) ?_
  refine xM rfl rfl rfl rfl rfl ?_
  refine bq ⟨zD, ?_⟩
  dsimp only [St.put]
  refine vz ws al bo hra hrb (dw p.text x : Int) (.own (nx + 1 + 1) _ (ca p.text x).length) (.own (nx + 1) vb (bf p.text x).length) rfl rfl nB a1 a2 a3 _ rfl (by kernel_rfl) (by kernel_rfl) (by kernel_rfl) rfl rfl rfl rfl rfl rfl rfl rfl rfl rfl rfl rfl rfl zG zG zG zG d1 d2 d3 d4 d5 d6 hw ha hb ?_
  dsimp only
  refine je [(24, none), (25, none)] 7 (rl [26, 7]) (by kernel_rfl) ?_
  refine ae rfl rfl rfl rfl (fb rfl rfl) ?_
  refine ae rfl rfl rfl rfl (dj rfl rfl) ?_
  refine bq ⟨zD, ?_⟩
  refine iz [26] (by kernel_rfl) (by simp) ?_
  refine jd ?_ ?_
  ·try dsimp only [St.put]
   refine jb rfl rfl rfl rfl (iw rfl rfl rfl zG (by constructor) rfl zO ?_)
   refine je [(27, none), (28, none)] 4 (rl [29, 4]) (by kernel_rfl) ?_
   refine ae rfl rfl rfl rfl (fb rfl rfl) ?_
   refine ae rfl rfl rfl rfl (dj rfl rfl) ?_
   refine bq ⟨zD, ?_⟩
   refine iz [29] (by kernel_rfl) (by simp) ?_
   refine jd ?_ ?_
   ·try dsimp only [St.put]
    refine jb rfl rfl rfl rfl (iw rfl rfl rfl zG (by constructor) rfl zO ?_)
    refine je [(30, none), (31, none)] 1 (rl [32, 1]) (by kernel_rfl) ?_
    refine ae rfl rfl rfl rfl (fb rfl rfl) ?_
    refine ae rfl rfl rfl rfl (dj rfl rfl) ?_
    refine bq ⟨zD, ?_⟩
    refine iz [32] (by kernel_rfl) (by simp) ?_
    refine jd ?_ ?_
    ·try dsimp only [St.put]
     refine jb rfl rfl rfl rfl (iw rfl rfl rfl zG (by constructor) rfl zO ?_)
     dsimp only [St.put]
     refine ri (by kernel_rfl) ?_
     refine ⟨(nx + 1 + 1, vl, wv + 1, nx + 1, vb, 0), ⟨⟨by (dsimp only; omega), by (dsimp only; omega)⟩, ⟨by (dsimp only; omega), by (dsimp only; omega)⟩, by (dsimp only; omega)⟩, ?_⟩
     refine qr rfl (.inl rfl) zN (px zG zG zG zG fun n o q1 q2 q3 q4 h => tl h zG fun q5 h => tl h zG fun q6 h => ?_)
     have hn := hlt n o h
     (try dsimp only)
     repeat (first | exact h | rw [cm (by omega)] | rw [jk (by omega)])
    exact jc
   exact jc
  exact jc
 have hz0 := ph hym
 subst hz0
 obtain ⟨z, hz⟩ : ∃ z, z = y := ⟨_, rfl⟩
 subst hz
 have hIn : ∀ z ∈ ks, ∀ x ∈ done ++ [z], x ∈ ks := fun z hz x hx => by
  rcases List.mem_append.1 hx with hx | hx
  ·exact hI8.1 x hx
  rw [List.mem_singleton] at hx; exact hx ▸ hz
 have hIu : ∀ z, z ∉ done → (done ++ [z]).Nodup := fun z hz => List.nodup_append.2 ⟨hI8.2, by simp, fun a ha b hb => by
  rw [List.mem_singleton] at hb; subst hb; exact fun e => hz (e ▸ ha)⟩
 have hdl := k8 hp hI8.2 (fun q hq => onceM_ne.1 ((hks0 q).2 (hI8.1 q hq)))
 refine yX rfl rfl rfl rfl ?_
 refine yN ?_
 dsimp only [St.put]
 refine K50 _ ?_
 refine yS fun _ K53 => ?_
 refine ak rfl (fun _ => ?_) (fun h => by cases h)
 refine av ?_
 refine K53 _ ?_
 refine az ?_
 refine yS fun _ K54 => ?_
 refine yR ?_
 try dsimp only [St.put]
 refine du rfl (p8 (fx := nx + 1 + 1 + 1 + 1) (n := nx) rfl rfl zG trivial zG zG trivial (by assumption)) ?_
 refine yX rfl rfl rfl rfl ?_
 try dsimp only [St.put]
 refine af rfl (eh rfl ?_)
 try dsimp only [St.put]
 refine af rfl (dt rfl rfl rfl zG rfl rfl (by rfl) ?_)
 refine yN ?_
 dsimp only [St.put]
 refine K54 _ ?_
 refine eo (i := 18) rfl zG zC ?_
 dsimp only
 refine yR ?_
 refine yM rfl rfl ?_
 try dsimp only [St.put]
 refine du rfl (d9 rfl rfl rfl) ?_
 try dsimp only [St.put]
 refine af rfl (ef rfl rfl rfl (by decide) (by decide) zR (by decide) ?_)
 try dsimp only [St.put]
 refine af rfl (ki (xs := bf p.text x ++ done) [z] rfl rfl zG rfl rfl rfl rfl zA zA (fun v3 => ?_))
 refine yA rfl rfl ?_
 refine yN ?_
 dsimp only [St.put]
 simp only [List.append_assoc]
 exact ⟨(done ++ [z], wi + 1, v3, wv), ql hyk hyd, ⟨hIn z hyk, hIu z hyd⟩, ⟨⟨rfl, rfl⟩, zF, zB, zN, zX⟩⟩
end Go.Proofs.YtgffhbbcpgdjjaaDoor
namespace Go.AB
open Go Go.RowKit
open Go.AB.Enc (cells)
open Go.PB (ay aj PlaceD bh bj bi bx aq am cv co dq dp)
end Go.AB
namespace Go.Proofs.YtgffhbbcpgdjjaaDoor
set_option maxRecDepth 10000
open Go.RowKit Go.AB
open Go.AB.Enc (cells)
open Go.PB (ay aj PlaceD bh bj bi bx aq am cv co dq dp)
end Go.Proofs.YtgffhbbcpgdjjaaDoor
namespace Go.Proofs.YtgffhbbcpgdjjaaDoor
set_option maxRecDepth 10000
open Go.RowKit Go.AB
open Go.AB.Enc (cells)
open Go.PB (ay aj PlaceD bh bj bi bx aq am cv co dq dp)
end Go.Proofs.YtgffhbbcpgdjjaaDoor
namespace Go.AB
open Go Go.RowKit
open Go.AB.Enc (cells)
open Go.PB (ay aj PlaceD bh bj bi)
theorem lt3 {a b c a' b' c' : Int} : gk [a, b, c] [a', b', c'] < 0 ↔ a < a' ∨ a = a' ∧ (b < b' ∨ b = b' ∧ c < c') := by
 rw [o6 (a := [a, b, c]) (b := [a', b', c']) rfl]; simp [ltW]
end Go.AB
namespace Go.Proofs.YtgffhbbcpgdjjaaDoor
set_option maxRecDepth 10000
open Go.RowKit Go.AB
open Go.AB.Enc (cells)
open Go.PB (ay aj PlaceD bh bj bi)
theorem udl (a b : PlaceD) : Pure Tryd.prog 96 [val a, val b] (.v (.bool (decide (gk (da a) (da b) < 0)))) := by
 refine dm Tryd.func96 rfl (fun m => .v) fun G nx => ?_
 simp only [Tryd.ntmps96, List.length_cons, List.length_nil, Nat.reduceAdd, Nat.reduceSub]
 refine ct fun hlt => ?_
 dsimp only at hlt
 refine yS fun _ K1 => ?_
 refine yR ?_
 try dsimp only [St.put]
 refine yB rfl rfl rfl ?_
 try dsimp only [St.put]
 refine yB rfl rfl rfl ?_
 refine yA rfl rfl ?_
 refine yN ?_
 dsimp only [St.put]
 refine K1 _ ?_
 refine yS fun _ K2 => ?_
 refine yS fun _ K3 => ?_
 refine yR ?_
 refine yF rfl rfl rfl rfl ?_
 refine yL rfl rfl rfl ?_
 refine yF rfl rfl rfl rfl ?_
 refine yL rfl rfl rfl ?_
 refine aa rfl (fj rfl rfl rfl) ?_
 refine yN ?_
 dsimp only [St.put]
 refine K3 _ ?_
 refine ak rfl (fun hc => ?_) (fun hc => ?_)
 ·have h1 : a.ch ≠ b.ch := ia hc
  refine yS fun _ K4 => ?_
  refine yR ?_
  refine yF rfl rfl rfl rfl ?_
  refine yL rfl rfl rfl ?_
  refine yF rfl rfl rfl rfl ?_
  refine yL rfl rfl rfl ?_
  refine aa rfl (cn rfl rfl rfl) ?_
  refine yA rfl rfl ?_
  refine yN ?_
  dsimp only [St.put]
  refine K4 _ ?_
  refine ax ?_
  refine bp rfl (by constructor) zN zS ?_
  exact vb (by rw [decide_eq_decide, da, da, lt3]; omega)
 have h1 : a.ch = b.ch := gw hc
 refine av ?_
 refine K2 _ ?_
 refine yS fun _ K5 => ?_
 refine yS fun _ K6 => ?_
 refine yR ?_
 refine yF rfl rfl rfl rfl ?_
 refine yL rfl rfl rfl ?_
 refine yF rfl rfl rfl rfl ?_
 refine yL rfl rfl rfl ?_
 refine aa rfl (fj rfl rfl rfl) ?_
 refine yN ?_
 dsimp only [St.put]
 refine K6 _ ?_
 refine ak rfl (fun hc => ?_) (fun hc => ?_)
 ·have h2 : a.ln ≠ b.ln := ia hc
  refine yS fun _ K7 => ?_
  refine yR ?_
  refine yF rfl rfl rfl rfl ?_
  refine yL rfl rfl rfl ?_
  refine yF rfl rfl rfl rfl ?_
  refine yL rfl rfl rfl ?_
  refine aa rfl (cn rfl rfl rfl) ?_
  refine yA rfl rfl ?_
  refine yN ?_
  dsimp only [St.put]
  refine K7 _ ?_
  refine ax ?_
  refine bp rfl (by constructor) zN zS ?_
  exact vb (by rw [decide_eq_decide, da, da, lt3]; omega)
 have h2 : a.ln = b.ln := gw hc
 refine av ?_
 refine K5 _ ?_
 refine yS fun _ K8 => ?_
 refine yR ?_
 refine yF rfl rfl rfl rfl ?_
 refine yL rfl rfl rfl ?_
 refine yF rfl rfl rfl rfl ?_
 refine yL rfl rfl rfl ?_
 refine aa rfl (cn rfl rfl rfl) ?_
 refine yA rfl rfl ?_
 refine yN ?_
 dsimp only [St.put]
 refine K8 _ ?_
 refine ax ?_
 refine bp rfl (by constructor) zN zS ?_
 exact vb (by rw [decide_eq_decide, da, da, lt3]; omega)
end Go.Proofs.YtgffhbbcpgdjjaaDoor
namespace Go.Proofs.YtgffhbbcpgdjjaaDoor
set_option maxRecDepth 10000
open Go.RowKit Go.AB
open Go.AB.Enc (cells)
open Go.PB (ay aj PlaceD bh bj bi bx aq am cv co dq dp)
set_option maxHeartbeats 1000000 in
theorem uam (t : aj) (x : aq) (r : Int) (l : List PlaceD) (ht : dl t = true) : Pure Tryd.prog 73 [eu t, val x, .v (.int .i64 r), lst l] (.v (.bool (gr t x r l))) := by
 refine dm Tryd.func73 rfl (fun m => .v) fun G nx => ?_
 simp only [Tryd.ntmps73, List.length_cons, List.length_nil, Nat.reduceAdd, Nat.reduceSub]
 refine ct fun hlt => ?_
 dsimp only at hlt
 refine jn 3 (fun hfl => ?_)
 have hl0 := (fit_lst.1 hfl).1
 refine yS fun _ K1 => ?_
 refine yR ?_
 try dsimp only [St.put]
 refine yB rfl rfl rfl ?_
 try dsimp only [St.put]
 refine yB rfl rfl rfl ?_
 refine yA rfl rfl ?_
 refine yN ?_
 dsimp only [St.put]
 refine K1 _ ?_
 refine yS fun _ K2 => ?_
 refine yS fun _ K3 => ?_
 refine yR ?_
 refine yM rfl rfl ?_
 refine aa rfl (cn rfl rfl rfl) ?_
 refine ep (fun hs => ?_) (fun hs => ?_)
 ·have s1 : r < 0 := of_decide_eq_true hs
  refine yM rfl rfl ?_
  refine yM rfl rfl ?_
  refine aa rfl (bg rfl rfl (List.length_map _)) ?_
  refine aa rfl (gq rfl rfl rfl) ?_
  refine aa rfl (ck rfl rfl (by constructor)) ?_
  refine yN ?_
  dsimp only [St.put]
  refine K3 _ ?_
  refine ak rfl (fun hc => ?_) (fun hc => ?_)
  ·have s2 : 0 < l.length := by
    have := of_decide_eq_true hc
    omega
   refine yS fun _ K4 => ?_
   refine yR ?_
   refine yA rfl rfl ?_
   refine yN ?_
   dsimp only [St.put]
   refine K4 _ ?_
   refine ax ?_
   refine bp rfl (by constructor) zN zS ?_
   exact vb (by
    have e1 : ¬ 0 ≤ r := by omega
    have e2 : l ≠ [] := fun e => by rw [e] at s2; exact absurd s2 (by simp)
    simp [gr, e1, e2])
  have s3 : (decide (0 ≤ r) || decide (l = [])) = true := by
   first
   | (rw [decide_eq_true (show 0 ≤ r by omega)]; rfl)
   | (have := of_decide_eq_false hc
      have : l = [] := List.eq_nil_of_length_eq_zero (by omega)
      simp [this])
  refine av ?_
  refine K2 _ ?_
  refine yS fun _ K5 => ?_
  refine yS fun _ K6 => ?_
  refine yR ?_
  refine yA rfl rfl ?_
  refine yN ?_
  dsimp only [St.put]
  refine K6 _ ?_
  refine az ?_
  refine cj 10 ?_
  refine zQ ?_
  refine db (G) zX ?_
  dsimp only
  refine c7 (X := Nat) (fun i => i ≤ l.length ∧ ce t x l i = true) (fun i => l.length - i) (fun i => [(9, .v (.int .i64 (i : Int)))]) (fun i G' => G') 0 rfl ?_ ?_ (fun _ _ h => h) ?_ ?_ ?_
  ·exact ⟨Nat.zero_le _, rfl⟩
  ·exact zF
  ·rintro i hI
   exact zL
  ·exact fun _ _ _ _ h => .inl h
  rintro i hI
  dsimp only at hI ⊢
  refine yS fun _ K7 => ?_
  refine yS fun _ K8 => ?_
  refine yR ?_
  refine yM rfl rfl ?_
  refine yM rfl rfl ?_
  refine aa rfl (bg rfl rfl (List.length_map _)) ?_
  refine aa rfl (cn rfl rfl rfl) ?_
  refine yN ?_
  dsimp only [St.put]
  refine K8 _ ?_
  refine ak rfl (fun hc => ?_) (fun hc => ?_)
  ·replace hc := of_decide_eq_true hc
   obtain ⟨q, hq⟩ : ∃ q, l[i]? = some q := cx (by omega)
   refine av ?_
   refine K7 _ ?_
   refine yS fun _ K9 => ?_
   refine az ?_
   refine cj 10 ?_
   refine zQ ?_
   refine ix (X := Bool) (fun d => i7 t x l i = !d) (fun d => [(60, .v (.bool d))]) (fun d G' => G') rfl ?_ (fun _ _ _ _ h => .inl h) ?_ ?_
   ·rintro d hI
    exact zL
   ·refine o8 [(0, none), (1, none), (2, none), (3, none), (4, none)] (fun _ => false) (fun i => [1, 2, 3].contains i) 33 (rl [5, 33]) (by kernel_rfl) (by kernel_rfl) ?_
    try dsimp only [St.put]
    refine aw rfl rfl rfl rfl (d9 rfl rfl rfl) ?_
    refine xM rfl rfl rfl rfl rfl ?_
    refine xM rfl rfl rfl rfl rfl ?_
    try dsimp only [St.put]
    refine ae rfl rfl rfl rfl (bl rfl rfl rfl rfl (bn (by assumption)) (Enc.len _)) ?_
    try dsimp only [St.put]
    refine aw rfl rfl rfl rfl (d9 rfl rfl (Enc.len _)) ?_
    refine bq ?_
    refine dc [5] (by kernel_rfl) (by simp) ?_
    refine dg ?_ ?_
    ·try dsimp only [St.put]
     refine gu rfl rfl rfl (ba rfl rfl rfl (udj t q ht) ?_)
     refine d8 [(6, none), (7, none), (8, none), (9, none), (10, none), (11, none), (12, none), (14, none), (15, none), (16, none), (17, none)] (fun i => [6, 7, 9, 10, 11, 14, 16].contains i) 21 (rl [13, 1, 4, 20]) (by kernel_rfl) ?_
     refine ae rfl rfl rfl rfl (dv rfl rfl) ?_
     refine il (fun hs => ?_) (fun hs => ?_)
     ·have s4 := hs
      refine xM rfl rfl rfl rfl rfl ?_
      refine ah rfl rfl rfl ?_
      refine ah rfl rfl rfl ?_
      refine ah rfl rfl rfl ?_
      refine ah rfl rfl rfl ?_
      refine ah rfl rfl rfl ?_
      refine ah rfl rfl rfl ?_
      refine ah rfl rfl rfl ?_
      refine ah rfl rfl rfl ?_
      refine ah rfl rfl rfl ?_
      refine bq ?_
      refine dc [13] (by kernel_rfl) (by simp) ?_
      refine dg ?_ ?_
      ·refine fa rfl rfl rfl ?_
       refine dc [18] (by kernel_rfl) (by simp) ?_
       refine dg ?_ ?_
       ·refine fa rfl rfl rfl ?_
        refine d8 [(19, none), (20, none), (21, none), (22, none), (23, none), (24, none), (25, none), (26, none), (27, none), (28, none), (29, none), (30, none), (31, none), (32, none), (33, none)] (fun i => [19, 20, 21, 22, 23, 24, 25, 26, 27, 28, 30, 31, 32].contains i) 4 (rl [34, 4]) (by kernel_rfl) ?_
        refine ah rfl rfl rfl ?_
        refine ae rfl rfl rfl rfl (ck rfl rfl (by constructor)) ?_
        refine xM rfl rfl rfl rfl rfl ?_
        refine ah rfl rfl rfl ?_
        refine ah rfl rfl rfl ?_
        refine ah rfl rfl rfl ?_
        refine ah rfl rfl rfl ?_
        refine ah rfl rfl rfl ?_
        refine ah rfl rfl rfl ?_
        refine ah rfl rfl rfl ?_
        refine ah rfl rfl rfl ?_
        refine ah rfl rfl rfl ?_
        refine ah rfl rfl rfl ?_
        refine ah rfl rfl rfl ?_
        refine ah rfl rfl rfl ?_
        refine bq ?_
        refine dc [34] (by kernel_rfl) (by simp) ?_
        refine dg ?_ ?_
        ·refine fa rfl rfl rfl ?_
         refine d8 [(35, none), (36, none), (37, none)] (fun i => [35, 36, 37].contains i) 0 (rl [38]) (by kernel_rfl) ?_
         refine ah rfl rfl rfl ?_
         refine ah rfl rfl rfl ?_
         refine ae rfl rfl rfl rfl (ck rfl rfl (by constructor)) ?_
         refine bq ?_
         dsimp only [St.put]
         refine ge (by kernel_rfl) ?_
         refine ⟨_, ?_, ⟨⟨rfl, rfl⟩, zF, zB, zN, zX⟩⟩
         simp_all [i7, el, mf]
         try (intro h0; omega)
        exact dd
       exact dd
      exact dd
     have hqp : ey t q = true := by simpa using hs
     refine xM rfl rfl rfl rfl rfl ?_
     try dsimp only [St.put]
     refine aw rfl rfl rfl rfl (d9 rfl rfl rfl) ?_
     refine xM rfl rfl rfl rfl rfl ?_
     refine xM rfl rfl rfl rfl rfl ?_
     try dsimp only [St.put]
     refine ae rfl rfl rfl rfl (bl rfl rfl rfl rfl (bn (by assumption)) (Enc.len _)) ?_
     try dsimp only [St.put]
     refine aw rfl rfl rfl rfl (d9 rfl rfl (Enc.len _)) ?_
     refine ae rfl rfl rfl rfl (cb rfl rfl rfl) ?_
     try dsimp only [St.put]
     refine aw rfl rfl rfl rfl (bv rfl rfl) ?_
     refine ae rfl rfl rfl rfl (cb rfl rfl rfl) ?_
     try dsimp only [St.put]
     refine aw rfl rfl rfl rfl (bv rfl rfl) ?_
     refine bq ?_
     refine dc [13] (by kernel_rfl) (by simp) ?_
     refine dg ?_ ?_
     ·try dsimp only [St.put]
      refine gu rfl rfl rfl (ba rfl rfl rfl (w4 t q ht hqp) ?_)
      refine dc [18] (by kernel_rfl) (by simp) ?_
      refine dg ?_ ?_
      ·try dsimp only [St.put]
       refine gu rfl rfl rfl (ba rfl rfl rfl (ne _ _ _) ?_)
       refine d8 [(19, none), (20, none), (21, none), (22, none), (23, none), (24, none), (25, none), (26, none), (27, none), (28, none), (29, none), (30, none), (31, none), (32, none), (33, none)] (fun i => [19, 20, 21, 22, 23, 24, 25, 26, 27, 28, 30, 31, 32].contains i) 4 (rl [34, 4]) (by kernel_rfl) ?_
       refine ae rfl rfl rfl rfl (dv rfl rfl) ?_
       refine il (fun hs => ?_) (fun hs => ?_)
       ·have s5 := hs
        refine ae rfl rfl rfl rfl (bz rfl rfl (by constructor)) ?_
        refine xM rfl rfl rfl rfl rfl ?_
        refine ah rfl rfl rfl ?_
        refine ah rfl rfl rfl ?_
        refine ah rfl rfl rfl ?_
        refine ah rfl rfl rfl ?_
        refine ah rfl rfl rfl ?_
        refine ah rfl rfl rfl ?_
        refine ah rfl rfl rfl ?_
        refine ah rfl rfl rfl ?_
        refine ah rfl rfl rfl ?_
        refine ah rfl rfl rfl ?_
        refine ah rfl rfl rfl ?_
        refine ah rfl rfl rfl ?_
        refine bq ?_
        refine dc [34] (by kernel_rfl) (by simp) ?_
        refine dg ?_ ?_
        ·refine fa rfl rfl rfl ?_
         refine d8 [(35, none), (36, none), (37, none)] (fun i => [35, 36, 37].contains i) 0 (rl [38]) (by kernel_rfl) ?_
         refine ah rfl rfl rfl ?_
         refine ah rfl rfl rfl ?_
         refine ae rfl rfl rfl rfl (ck rfl rfl (by constructor)) ?_
         refine bq ?_
         dsimp only [St.put]
         refine ge (by kernel_rfl) ?_
         refine ⟨_, ?_, ⟨⟨rfl, rfl⟩, zF, zB, zN, zX⟩⟩
         simp_all [i7, el, mf]
         try (intro h0; omega)
        exact dd
       have s5 := hs
       refine ae rfl rfl rfl rfl (bz rfl rfl (by constructor)) ?_
       refine xM rfl rfl rfl rfl rfl ?_
       refine xM rfl rfl rfl rfl rfl ?_
       refine ae rfl rfl rfl rfl (gq rfl rfl rfl) ?_
       refine il (fun hs => ?_) (fun hs => ?_)
       ·have s6 : 0 < i := by
         have := of_decide_eq_true hs
         omega
        obtain ⟨q0, hq0⟩ : ∃ q0, l[i - 1]? = some q0 := cx (by omega)
        refine xM rfl rfl rfl rfl rfl ?_
        refine xM rfl rfl rfl rfl rfl ?_
        refine xM rfl rfl rfl rfl rfl ?_
        refine ae rfl rfl rfl rfl (gm rfl rfl rfl (by omega)) ?_
        try dsimp only [St.put]
        refine ae rfl rfl rfl rfl (bl (k := i - 1) rfl rfl rfl (by omega) (bn hq0) (Enc.len _)) ?_
        try dsimp only [St.put]
        refine aw rfl rfl rfl rfl (d9 rfl rfl (Enc.len _)) ?_
        refine xM rfl rfl rfl rfl rfl ?_
        refine xM rfl rfl rfl rfl rfl ?_
        try dsimp only [St.put]
        refine ae rfl rfl rfl rfl (bl rfl rfl rfl rfl (bn (by assumption)) (Enc.len _)) ?_
        try dsimp only [St.put]
        refine aw rfl rfl rfl rfl (d9 rfl rfl (Enc.len _)) ?_
        refine bq ?_
        refine dc [34] (by kernel_rfl) (by simp) ?_
        refine dg ?_ ?_
        ·try dsimp only [St.put]
         refine gu rfl rfl rfl (ba rfl rfl rfl (udl q0 q) ?_)
         refine d8 [(35, none), (36, none), (37, none)] (fun i => [35, 36, 37].contains i) 0 (rl [38]) (by kernel_rfl) ?_
         refine ae rfl rfl rfl rfl (dv rfl rfl) ?_
         refine ae rfl rfl rfl rfl (ck rfl rfl (by constructor)) ?_
         refine ae rfl rfl rfl rfl (bz rfl rfl (by constructor)) ?_
         refine bq ?_
         dsimp only [St.put]
         refine ge (by kernel_rfl) ?_
         refine ⟨_, ?_, ⟨⟨rfl, rfl⟩, zF, zB, zN, zX⟩⟩
         simp_all [i7, el, mf]
         try (intro h0; omega)
        exact dd
       have s6 : i = 0 := by
        have := of_decide_eq_false hs
        omega
       refine xM rfl rfl rfl rfl rfl ?_
       refine ah rfl rfl rfl ?_
       refine ah rfl rfl rfl ?_
       refine ah rfl rfl rfl ?_
       refine ah rfl rfl rfl ?_
       refine ah rfl rfl rfl ?_
       refine ah rfl rfl rfl ?_
       refine ah rfl rfl rfl ?_
       refine ah rfl rfl rfl ?_
       refine ah rfl rfl rfl ?_
       refine bq ?_
       refine dc [34] (by kernel_rfl) (by simp) ?_
       refine dg ?_ ?_
       ·refine fa rfl rfl rfl ?_
        refine d8 [(35, none), (36, none), (37, none)] (fun i => [35, 36, 37].contains i) 0 (rl [38]) (by kernel_rfl) ?_
        refine ah rfl rfl rfl ?_
        refine ae rfl rfl rfl rfl (bz rfl rfl (by constructor)) ?_
        refine ae rfl rfl rfl rfl (bz rfl rfl (by constructor)) ?_
        refine bq ?_
        dsimp only [St.put]
        refine ge (by kernel_rfl) ?_
        refine ⟨_, ?_, ⟨⟨rfl, rfl⟩, zF, zB, zN, zX⟩⟩
        simp_all [i7, el, mf]
        try (intro h0; omega)
       exact dd
      exact dd
     exact dd
    exact dd
   rintro d hst
   dsimp only at hst ⊢
   refine ak rfl (fun hc => ?_) (fun hc => ?_)
   ·skip
    refine yS fun _ K11 => ?_
    refine yR ?_
    refine yA rfl rfl ?_
    refine yN ?_
    dsimp only [St.put]
    refine K11 _ ?_
    refine ax ?_
    refine bp rfl (by constructor) zN zS ?_
    exact vb (by
     have e : i7 t x l i = false := by rw [hst, hc]; rfl
     have : ce t x l l.length = false := by
      refine List.all_eq_false.2 ⟨i, List.mem_range.2 (by omega), by rw [e]; simp⟩
     simp [gr, this])
   skip
   refine av ?_
   refine K9 _ ?_
   refine yR ?_
   refine yM rfl rfl ?_
   refine aa rfl (br rfl rfl rfl (by omega)) ?_
   refine yA rfl rfl ?_
   refine yN ?_
   dsimp only [St.put]
   exact ⟨i + 1, by omega, ⟨by omega, by rw [d7, hI.2, hst, hc]; rfl⟩, ⟨⟨rfl, rfl⟩, zF, zB, zN, zX⟩⟩
  replace hc := of_decide_eq_false hc
  obtain rfl : i = l.length := by omega
  refine cr ?_
  refine K5 _ ?_
  refine yS fun _ K12 => ?_
  refine yR ?_
  refine yA rfl rfl ?_
  refine yN ?_
  dsimp only [St.put]
  refine K12 _ ?_
  refine ax ?_
  refine bp rfl (by constructor) zN zS ?_
  exact vb (by
   unfold gr
   rw [hI.2, Bool.and_true]
   first
   | exact s3.symm
   | (have e1 : 0 ≤ r := by omega
      simp [e1]))
 have s1 : ¬ r < 0 := of_decide_eq_false hs
 refine yM rfl rfl ?_
 refine yK rfl ?_
 refine yK rfl ?_
 refine yK rfl ?_
 refine aa rfl (bz rfl rfl (by constructor)) ?_
 refine yN ?_
 dsimp only [St.put]
 refine K3 _ ?_
 refine ak rfl (fun h => by cases h) (fun _ => ?_)
 have s3 : (decide (0 ≤ r) || decide (l = [])) = true := by
  first
  | (rw [decide_eq_true (show 0 ≤ r by omega)]; rfl)
  | (have := of_decide_eq_false hc
     have : l = [] := List.eq_nil_of_length_eq_zero (by omega)
     simp [this])
 refine av ?_
 refine K2 _ ?_
 refine yS fun _ K13 => ?_
 refine yS fun _ K14 => ?_
 refine yR ?_
 refine yA rfl rfl ?_
 refine yN ?_
 dsimp only [St.put]
 refine K14 _ ?_
 refine az ?_
 refine cj 10 ?_
 refine zQ ?_
 refine db (G) zX ?_
 dsimp only
 refine c7 (X := Nat) (fun i => i ≤ l.length ∧ ce t x l i = true) (fun i => l.length - i) (fun i => [(9, .v (.int .i64 (i : Int)))]) (fun i G' => G') 0 rfl ?_ ?_ (fun _ _ h => h) ?_ ?_ ?_
 ·exact ⟨Nat.zero_le _, rfl⟩
 ·exact zF
 ·rintro i hI
  exact zL
 ·exact fun _ _ _ _ h => .inl h
 rintro i hI
 dsimp only at hI ⊢
 refine yS fun _ K15 => ?_
 refine yS fun _ K16 => ?_
 refine yR ?_
 refine yM rfl rfl ?_
 refine yM rfl rfl ?_
 refine aa rfl (bg rfl rfl (List.length_map _)) ?_
 refine aa rfl (cn rfl rfl rfl) ?_
 refine yN ?_
 dsimp only [St.put]
 refine K16 _ ?_
 refine ak rfl (fun hc => ?_) (fun hc => ?_)
 ·replace hc := of_decide_eq_true hc
  obtain ⟨q, hq⟩ : ∃ q, l[i]? = some q := cx (by omega)
  refine av ?_
  refine K15 _ ?_
  refine yS fun _ K17 => ?_
  refine az ?_
  refine cj 10 ?_
  refine zQ ?_
  refine ix (X := Bool) (fun d => i7 t x l i = !d) (fun d => [(60, .v (.bool d))]) (fun d G' => G') rfl ?_ (fun _ _ _ _ h => .inl h) ?_ ?_
  ·rintro d hI
   exact zL
  ·refine o8 [(0, none), (1, none), (2, none), (3, none), (4, none)] (fun _ => false) (fun i => [1, 2, 3].contains i) 33 (rl [5, 33]) (by kernel_rfl) (by kernel_rfl) ?_
   try dsimp only [St.put]
   refine aw rfl rfl rfl rfl (d9 rfl rfl rfl) ?_
   refine xM rfl rfl rfl rfl rfl ?_
   refine xM rfl rfl rfl rfl rfl ?_
   try dsimp only [St.put]
   refine ae rfl rfl rfl rfl (bl rfl rfl rfl rfl (bn (by assumption)) (Enc.len _)) ?_
   try dsimp only [St.put]
   refine aw rfl rfl rfl rfl (d9 rfl rfl (Enc.len _)) ?_
   refine bq ?_
   refine dc [5] (by kernel_rfl) (by simp) ?_
   refine dg ?_ ?_
   ·try dsimp only [St.put]
    refine gu rfl rfl rfl (ba rfl rfl rfl (udj t q ht) ?_)
    refine d8 [(6, none), (7, none), (8, none), (9, none), (10, none), (11, none), (12, none), (14, none), (15, none), (16, none), (17, none)] (fun i => [6, 7, 9, 10, 11, 14, 16].contains i) 21 (rl [13, 1, 4, 20]) (by kernel_rfl) ?_
    refine ae rfl rfl rfl rfl (dv rfl rfl) ?_
    refine il (fun hs => ?_) (fun hs => ?_)
    ·have s4 := hs
     refine xM rfl rfl rfl rfl rfl ?_
     refine ah rfl rfl rfl ?_
     refine ah rfl rfl rfl ?_
     refine ah rfl rfl rfl ?_
     refine ah rfl rfl rfl ?_
     refine ah rfl rfl rfl ?_
     refine ah rfl rfl rfl ?_
     refine ah rfl rfl rfl ?_
     refine ah rfl rfl rfl ?_
     refine ah rfl rfl rfl ?_
     refine bq ?_
     refine dc [13] (by kernel_rfl) (by simp) ?_
     refine dg ?_ ?_
     ·refine fa rfl rfl rfl ?_
      refine dc [18] (by kernel_rfl) (by simp) ?_
      refine dg ?_ ?_
      ·refine fa rfl rfl rfl ?_
       refine d8 [(19, none), (20, none), (21, none), (22, none), (23, none), (24, none), (25, none), (26, none), (27, none), (28, none), (29, none), (30, none), (31, none), (32, none), (33, none)] (fun i => [19, 20, 21, 22, 23, 24, 25, 26, 27, 28, 30, 31, 32].contains i) 4 (rl [34, 4]) (by kernel_rfl) ?_
       refine ah rfl rfl rfl ?_
       refine ae rfl rfl rfl rfl (ck rfl rfl (by constructor)) ?_
       refine xM rfl rfl rfl rfl rfl ?_
       refine ah rfl rfl rfl ?_
       refine ah rfl rfl rfl ?_
       refine ah rfl rfl rfl ?_
       refine ah rfl rfl rfl ?_
       refine ah rfl rfl rfl ?_
       refine ah rfl rfl rfl ?_
       refine ah rfl rfl rfl ?_
       refine ah rfl rfl rfl ?_
       refine ah rfl rfl rfl ?_
       refine ah rfl rfl rfl ?_
       refine ah rfl rfl rfl ?_
       refine ah rfl rfl rfl ?_
       refine bq ?_
       refine dc [34] (by kernel_rfl) (by simp) ?_
       refine dg ?_ ?_
       ·refine fa rfl rfl rfl ?_
        refine d8 [(35, none), (36, none), (37, none)] (fun i => [35, 36, 37].contains i) 0 (rl [38]) (by kernel_rfl) ?_
        refine ah rfl rfl rfl ?_
        refine ah rfl rfl rfl ?_
        refine ae rfl rfl rfl rfl (ck rfl rfl (by constructor)) ?_
        refine bq ?_
        dsimp only [St.put]
        refine ge (by kernel_rfl) ?_
        refine ⟨_, ?_, ⟨⟨rfl, rfl⟩, zF, zB, zN, zX⟩⟩
        simp_all [i7, el, mf]
        try (intro h0; omega)
       exact dd
      exact dd
     exact dd
    have hqp : ey t q = true := by simpa using hs
    refine xM rfl rfl rfl rfl rfl ?_
    try dsimp only [St.put]
    refine aw rfl rfl rfl rfl (d9 rfl rfl rfl) ?_
    refine xM rfl rfl rfl rfl rfl ?_
    refine xM rfl rfl rfl rfl rfl ?_
    try dsimp only [St.put]
    refine ae rfl rfl rfl rfl (bl rfl rfl rfl rfl (bn (by assumption)) (Enc.len _)) ?_
    try dsimp only [St.put]
    refine aw rfl rfl rfl rfl (d9 rfl rfl (Enc.len _)) ?_
    refine ae rfl rfl rfl rfl (cb rfl rfl rfl) ?_
    try dsimp only [St.put]
    refine aw rfl rfl rfl rfl (bv rfl rfl) ?_
    refine ae rfl rfl rfl rfl (cb rfl rfl rfl) ?_
    try dsimp only [St.put]
    refine aw rfl rfl rfl rfl (bv rfl rfl) ?_
    refine bq ?_
    refine dc [13] (by kernel_rfl) (by simp) ?_
    refine dg ?_ ?_
    ·try dsimp only [St.put]
     refine gu rfl rfl rfl (ba rfl rfl rfl (w4 t q ht hqp) ?_)
     refine dc [18] (by kernel_rfl) (by simp) ?_
     refine dg ?_ ?_
     ·try dsimp only [St.put]
      refine gu rfl rfl rfl (ba rfl rfl rfl (ne _ _ _) ?_)
      refine d8 [(19, none), (20, none), (21, none), (22, none), (23, none), (24, none), (25, none), (26, none), (27, none), (28, none), (29, none), (30, none), (31, none), (32, none), (33, none)] (fun i => [19, 20, 21, 22, 23, 24, 25, 26, 27, 28, 30, 31, 32].contains i) 4 (rl [34, 4]) (by kernel_rfl) ?_
      refine ae rfl rfl rfl rfl (dv rfl rfl) ?_
      refine il (fun hs => ?_) (fun hs => ?_)
      ·have s5 := hs
       refine ae rfl rfl rfl rfl (bz rfl rfl (by constructor)) ?_
       refine xM rfl rfl rfl rfl rfl ?_
       refine ah rfl rfl rfl ?_
       refine ah rfl rfl rfl ?_
       refine ah rfl rfl rfl ?_
       refine ah rfl rfl rfl ?_
       refine ah rfl rfl rfl ?_
       refine ah rfl rfl rfl ?_
       refine ah rfl rfl rfl ?_
       refine ah rfl rfl rfl ?_
       refine ah rfl rfl rfl ?_
       refine ah rfl rfl rfl ?_
       refine ah rfl rfl rfl ?_
       refine ah rfl rfl rfl ?_
       refine bq ?_
       refine dc [34] (by kernel_rfl) (by simp) ?_
       refine dg ?_ ?_
       ·refine fa rfl rfl rfl ?_
        refine d8 [(35, none), (36, none), (37, none)] (fun i => [35, 36, 37].contains i) 0 (rl [38]) (by kernel_rfl) ?_
        refine ah rfl rfl rfl ?_
        refine ah rfl rfl rfl ?_
        refine ae rfl rfl rfl rfl (ck rfl rfl (by constructor)) ?_
        refine bq ?_
        dsimp only [St.put]
        refine ge (by kernel_rfl) ?_
        refine ⟨_, ?_, ⟨⟨rfl, rfl⟩, zF, zB, zN, zX⟩⟩
        simp_all [i7, el, mf]
        try (intro h0; omega)
       exact dd
      have s5 := hs
      refine ae rfl rfl rfl rfl (bz rfl rfl (by constructor)) ?_
      refine xM rfl rfl rfl rfl rfl ?_
      refine xM rfl rfl rfl rfl rfl ?_
      refine ae rfl rfl rfl rfl (gq rfl rfl rfl) ?_
      refine il (fun hs => ?_) (fun hs => ?_)
      ·have s6 : 0 < i := by
        have := of_decide_eq_true hs
        omega
       obtain ⟨q0, hq0⟩ : ∃ q0, l[i - 1]? = some q0 := cx (by omega)
       refine xM rfl rfl rfl rfl rfl ?_
       refine xM rfl rfl rfl rfl rfl ?_
       refine xM rfl rfl rfl rfl rfl ?_
       refine ae rfl rfl rfl rfl (gm rfl rfl rfl (by omega)) ?_
       try dsimp only [St.put]
       refine ae rfl rfl rfl rfl (bl (k := i - 1) rfl rfl rfl (by omega) (bn hq0) (Enc.len _)) ?_
       try dsimp only [St.put]
       refine aw rfl rfl rfl rfl (d9 rfl rfl (Enc.len _)) ?_
       refine xM rfl rfl rfl rfl rfl ?_
       refine xM rfl rfl rfl rfl rfl ?_
       try dsimp only [St.put]
       refine ae rfl rfl rfl rfl (bl rfl rfl rfl rfl (bn (by assumption)) (Enc.len _)) ?_
       try dsimp only [St.put]
       refine aw rfl rfl rfl rfl (d9 rfl rfl (Enc.len _)) ?_
       refine bq ?_
       refine dc [34] (by kernel_rfl) (by simp) ?_
       refine dg ?_ ?_
       ·try dsimp only [St.put]
        refine gu rfl rfl rfl (ba rfl rfl rfl (udl q0 q) ?_)
        refine d8 [(35, none), (36, none), (37, none)] (fun i => [35, 36, 37].contains i) 0 (rl [38]) (by kernel_rfl) ?_
        refine ae rfl rfl rfl rfl (dv rfl rfl) ?_
        refine ae rfl rfl rfl rfl (ck rfl rfl (by constructor)) ?_
        refine ae rfl rfl rfl rfl (bz rfl rfl (by constructor)) ?_
        refine bq ?_
        dsimp only [St.put]
        refine ge (by kernel_rfl) ?_
        refine ⟨_, ?_, ⟨⟨rfl, rfl⟩, zF, zB, zN, zX⟩⟩
        simp_all [i7, el, mf]
        try (intro h0; omega)
       exact dd
      have s6 : i = 0 := by
       have := of_decide_eq_false hs
       omega
      refine xM rfl rfl rfl rfl rfl ?_
      refine ah rfl rfl rfl ?_
      refine ah rfl rfl rfl ?_
      refine ah rfl rfl rfl ?_
      refine ah rfl rfl rfl ?_
      refine ah rfl rfl rfl ?_
      refine ah rfl rfl rfl ?_
      refine ah rfl rfl rfl ?_
      refine ah rfl rfl rfl ?_
      refine ah rfl rfl rfl ?_
      refine bq ?_
      refine dc [34] (by kernel_rfl) (by simp) ?_
      refine dg ?_ ?_
      ·refine fa rfl rfl rfl ?_
       refine d8 [(35, none), (36, none), (37, none)] (fun i => [35, 36, 37].contains i) 0 (rl [38]) (by kernel_rfl) ?_
       refine ah rfl rfl rfl ?_
       refine ae rfl rfl rfl rfl (bz rfl rfl (by constructor)) ?_
       refine ae rfl rfl rfl rfl (bz rfl rfl (by constructor)) ?_
       refine bq ?_
       dsimp only [St.put]
       refine ge (by kernel_rfl) ?_
       refine ⟨_, ?_, ⟨⟨rfl, rfl⟩, zF, zB, zN, zX⟩⟩
       simp_all [i7, el, mf]
       try (intro h0; omega)
      exact dd
     exact dd
    exact dd
   exact dd
  rintro d hst
  dsimp only at hst ⊢
  refine ak rfl (fun hc => ?_) (fun hc => ?_)
  ·skip
   refine yS fun _ K19 => ?_
   refine yR ?_
   refine yA rfl rfl ?_
   refine yN ?_
   dsimp only [St.put]
   refine K19 _ ?_
   refine ax ?_
   refine bp rfl (by constructor) zN zS ?_
   exact vb (by
    have e : i7 t x l i = false := by rw [hst, hc]; rfl
    have : ce t x l l.length = false := by
     refine List.all_eq_false.2 ⟨i, List.mem_range.2 (by omega), by rw [e]; simp⟩
    simp [gr, this])
  skip
  refine av ?_
  refine K17 _ ?_
  refine yR ?_
  refine yM rfl rfl ?_
  refine aa rfl (br rfl rfl rfl (by omega)) ?_
  refine yA rfl rfl ?_
  refine yN ?_
  dsimp only [St.put]
  exact ⟨i + 1, by omega, ⟨by omega, by rw [d7, hI.2, hst, hc]; rfl⟩, ⟨⟨rfl, rfl⟩, zF, zB, zN, zX⟩⟩
 replace hc := of_decide_eq_false hc
 obtain rfl : i = l.length := by omega
 refine cr ?_
 refine K13 _ ?_
 refine yS fun _ K20 => ?_
 refine yR ?_
 refine yA rfl rfl ?_
 refine yN ?_
 dsimp only [St.put]
 refine K20 _ ?_
 refine ax ?_
 refine bp rfl (by constructor) zN zS ?_
 exact vb (by
  unfold gr
  rw [hI.2, Bool.and_true]
  first
  | exact s3.symm
  | (have e1 : 0 ≤ r := by omega
     simp [e1]))
end Go.Proofs.YtgffhbbcpgdjjaaDoor
namespace Go.AB
open Go Go.RowKit
open Go.AB.Enc (cells)
open Go.PB (ay aj PlaceD bh bj bi bx aq am cv co dq dp)
def l8 (p : am) (last : Int) (x : aq) : Bool := decide (last < x.fr) && decide (x.fr ≤ x.to) && decide (x.to < (lg p.text : Int)) && inB x.fst (-1) ((p.firsts.length : Int) - 1) && inB x.snd (-1) ((p.seconds.length : Int) - 1)
theorem uh (p : am) (last : Int) (x : aq) : ka p last x = (l8 p last x && (gr p.text x x.fst x.found && gr p.text x x.snd x.well)) := by
 unfold ka l8
 cases decide (last < x.fr) <;> cases decide (x.fr ≤ x.to) <;> cases decide (x.to < (lg p.text : Int)) <;> cases inB x.fst (-1) ((p.firsts.length : Int) - 1) <;> cases inB x.snd (-1) ((p.seconds.length : Int) - 1) <;> simp
theorem pg {p : am} {j : Nat} {x : aq} (h : p.pages[j]? = some x) : r5 p j = ka p (fg p.pages j) x := by unfold r5; rw [h]
theorem qm {l : List aq} {j : Nat} {x : aq} (h : l[j]? = some x) : fg l (j + 1) = x.to := by simp only [fg, h]
theorem ry {p : am} {j : Nat} {x : aq} (h : p.pages[j]? = some x) (hb : ka p (fg p.pages j) x = false) : fw p = false := by
 have : ou p p.pages.length = false := List.all_eq_false.2 ⟨j, List.mem_range.2 (List.getElem?_eq_some_iff.1 h).1, by rw [pg h, hb]; simp⟩
 simp [fw, this]
end Go.AB
namespace Go.Proofs.YtgffhbbcpgdjjaaDoor
set_option maxRecDepth 10000
open Go.RowKit Go.AB
open Go.AB.Enc (cells)
open Go.PB (ay aj PlaceD bh bj bi bx aq am cv co dq dp)
set_option maxHeartbeats 2000000 in
theorem ufw (p : am) (ht : dl p.text = true) : Pure Tryd.prog 41 [val p] (.v (.bool (fw p))) := by
 refine dm Tryd.func41 rfl (fun m => .v) fun G nx => ?_
 simp only [Tryd.ntmps41, List.length_cons, List.length_nil, Nat.reduceAdd, Nat.reduceSub]
 refine ct fun hlt => ?_
 dsimp only at hlt
 refine yS fun _ K1 => ?_
 refine yR ?_
 try dsimp only [St.put]
 refine yB rfl rfl rfl ?_
 refine yA rfl rfl ?_
 refine yN ?_
 dsimp only [St.put]
 refine K1 _ ?_
 refine yS fun _ K2 => ?_
 refine yS fun _ K3 => ?_
 refine yR ?_
 refine yF rfl rfl rfl rfl ?_
 refine yL rfl rfl rfl ?_
 refine aa rfl (bg rfl rfl (List.length_map _)) ?_
 refine aa rfl (gq rfl rfl rfl) ?_
 refine ep (fun hs => ?_) (fun hs => ?_)
 ·have s1 : ¬ p.firsts.length ≤ 3 := by
   have := of_decide_eq_true hs
   omega
  refine yM rfl rfl ?_
  refine yK rfl ?_
  refine yK rfl ?_
  refine yK rfl ?_
  refine yK rfl ?_
  refine aa rfl (ck rfl rfl (by constructor)) ?_
  refine yM rfl rfl ?_
  refine yK rfl ?_
  refine yK rfl ?_
  refine yK rfl ?_
  refine yK rfl ?_
  refine aa rfl (ck rfl rfl (by constructor)) ?_
  refine yN ?_
  dsimp only [St.put]
  refine K3 _ ?_
  refine ak rfl (fun _ => ?_) (fun h => by cases h)
  refine yS fun _ K4 => ?_
  refine yR ?_
  refine yA rfl rfl ?_
  refine yN ?_
  dsimp only [St.put]
  refine K4 _ ?_
  refine ax ?_
  refine bp rfl (by constructor) zN zS ?_
  exact vb (by first | (simp [fw, iq, s1]; done) | (simp [fw, iq, s2]; done) | (simp [fw, s3]; done))
 have s1 : p.firsts.length ≤ 3 := by
  have := of_decide_eq_false hs
  omega
 refine yM rfl rfl ?_
 refine yF rfl rfl rfl rfl ?_
 refine yL rfl rfl rfl ?_
 refine aa rfl (bg rfl rfl (List.length_map _)) ?_
 refine aa rfl (gq rfl rfl rfl) ?_
 refine ep (fun hs => ?_) (fun hs => ?_)
 ·have s2 : ¬ p.seconds.length ≤ 3 := by
   have := of_decide_eq_true hs
   omega
  refine aa rfl (bz rfl rfl (by constructor)) ?_
  refine yM rfl rfl ?_
  refine yK rfl ?_
  refine yK rfl ?_
  refine yK rfl ?_
  refine yK rfl ?_
  refine aa rfl (ck rfl rfl (by constructor)) ?_
  refine yN ?_
  dsimp only [St.put]
  refine K3 _ ?_
  refine ak rfl (fun _ => ?_) (fun h => by cases h)
  refine yS fun _ K5 => ?_
  refine yR ?_
  refine yA rfl rfl ?_
  refine yN ?_
  dsimp only [St.put]
  refine K5 _ ?_
  refine ax ?_
  refine bp rfl (by constructor) zN zS ?_
  exact vb (by first | (simp [fw, iq, s1]; done) | (simp [fw, iq, s2]; done) | (simp [fw, s3]; done))
 have s2 : p.seconds.length ≤ 3 := by
  have := of_decide_eq_false hs
  omega
 refine aa rfl (bz rfl rfl (by constructor)) ?_
 refine yM rfl rfl ?_
 refine yF rfl rfl rfl rfl ?_
 refine yL rfl rfl rfl ?_
 refine aa rfl (bg rfl rfl (List.length_map _)) ?_
 refine aa rfl (gq rfl rfl rfl) ?_
 refine ep (fun hs => ?_) (fun hs => ?_)
 ·have s3 : ¬ p.pages.length ≤ 8 := by
   have := of_decide_eq_true hs
   omega
  refine aa rfl (bz rfl rfl (by constructor)) ?_
  refine yN ?_
  dsimp only [St.put]
  refine K3 _ ?_
  refine ak rfl (fun _ => ?_) (fun h => by cases h)
  refine yS fun _ K6 => ?_
  refine yR ?_
  refine yA rfl rfl ?_
  refine yN ?_
  dsimp only [St.put]
  refine K6 _ ?_
  refine ax ?_
  refine bp rfl (by constructor) zN zS ?_
  exact vb (by first | (simp [fw, iq, s1]; done) | (simp [fw, iq, s2]; done) | (simp [fw, s3]; done))
 have s3 : p.pages.length ≤ 8 := by
  have := of_decide_eq_false hs
  omega
 obtain ⟨A, hA⟩ : ∃ A, p.firsts ++ p.seconds = A := ⟨_, rfl⟩
 have hAl : A.length ≤ 6 := by rw [← hA, List.length_append]; omega
 refine aa rfl (bz rfl rfl (by constructor)) ?_
 refine yN ?_
 dsimp only [St.put]
 refine K3 _ ?_
 refine ak rfl (fun h => by cases h) (fun _ => ?_)
 refine av ?_
 refine K2 _ ?_
 refine yS fun _ K7 => ?_
 refine yR ?_
 refine yA rfl rfl ?_
 refine yN ?_
 dsimp only [St.put]
 refine K7 _ ?_
 refine re 3 71 2 rfl (by decide) ?_
 refine yS fun _ K8 => ?_
 refine f4 [(0, none), (1, none), (2, none), (4, none), (5, none), (3, none), (6, none), (7, none)] (fun i => [6].contains i) (fun i => [3, 6].contains i) (fun i => [0, 1, 4, 7].contains i) [] (by kernel_rfl) (by kernel_rfl) ?_
 refine xM rfl rfl rfl rfl rfl ?_
 refine ae rfl rfl rfl rfl (cb rfl rfl rfl) ?_
 try dsimp only [St.put]
 refine aw rfl rfl rfl rfl (bv rfl rfl) ?_
 refine ae rfl rfl rfl rfl (cb rfl rfl rfl) ?_
 try dsimp only [St.put]
 refine aw rfl rfl rfl rfl (bv rfl rfl) ?_
 refine ij ?_
 try dsimp only [St.put]
 refine g8 rfl rfl rfl (ki (xs := ([] : List bx)) p.firsts rfl rfl zG rfl rfl rfl rfl zA zA (fun v1 => ⟨zD, ?_⟩))
 try dsimp only [St.put]
 refine g8 rfl rfl rfl (ki (xs := ([] : List bx) ++ p.firsts) p.seconds rfl rfl zG rfl rfl rfl rfl zA zA (fun v2 => ⟨zD, ?_⟩))
 refine di rfl rfl rfl rfl (gn rfl (by constructor)) ?_
 refine ii ?_
 dsimp only [St.put]
 refine K8 _ ?_
 refine sy 3 (([] : List bx) ++ p.firsts ++ p.seconds) rfl zG rfl rfl rfl ?_
 refine db G zX ?_
 dsimp only
 rw [show ([] : List bx) ++ p.firsts ++ p.seconds = A from hA]
 refine yS fun _ K9 => ?_
 refine yS fun _ K10 => ?_
 refine yR ?_
 refine yA rfl rfl ?_
 refine yN ?_
 dsimp only [St.put]
 refine K10 _ ?_
 refine az ?_
 refine cj 9 ?_
 refine zQ ?_
 refine db (G) zX ?_
 dsimp only
 refine c7 (X := Nat) (fun i => i ≤ A.length ∧ (A.take i).all ff = true ∧ ((A.take i).map (·.id)).Nodup) (fun i => A.length - i) (fun i => [(4, .v (.int .i64 (i : Int))), (5, .any)]) (fun i G' => G') 0 rfl ?_ ?_ (fun _ _ h => h) ?_ ?_ ?_
 ·exact ⟨Nat.zero_le _, rfl, by simp⟩
 ·exact zF
 ·rintro i hI
  exact zL
 ·exact fun _ _ _ _ h => .inl h
 rintro i hI
 dsimp only at hI ⊢
 refine yS fun _ K11 => ?_
 refine yS fun _ K12 => ?_
 refine yR ?_
 refine yM rfl rfl ?_
 refine yM rfl rfl ?_
 refine aa rfl (bg rfl rfl (List.length_map _)) ?_
 refine aa rfl (cn rfl rfl rfl) ?_
 refine yN ?_
 dsimp only [St.put]
 refine K12 _ ?_
 refine ak rfl (fun hc => ?_) (fun hc => ?_)
 ·replace hc := of_decide_eq_true hc
  obtain ⟨r, hr⟩ : ∃ r, A[i]? = some r := cx (by omega)
  refine av ?_
  refine K11 _ ?_
  refine yS fun _ K13 => ?_
  refine az ?_
  refine yS fun _ K14 => ?_
  refine yS fun _ K15 => ?_
  refine yR ?_
  refine yM rfl rfl ?_
  refine yM rfl rfl ?_
  refine aa rfl (bl rfl rfl rfl rfl (bn (by assumption)) (Enc.len _)) ?_
  refine yF rfl rfl rfl rfl ?_
  refine yL rfl rfl rfl ?_
  try dsimp only [St.put]
  refine af rfl (ba rfl rfl rfl (ne _ _ _) ?_)
  refine aa rfl (dv rfl rfl) ?_
  refine ep (fun hs => ?_) (fun hs => ?_)
  ·have q1 : inB r.id 0 9999 = false := by simpa using hs
   refine yM rfl rfl ?_
   refine yK rfl ?_
   refine yK rfl ?_
   refine yK rfl ?_
   refine yK rfl ?_
   refine yK rfl ?_
   refine yK rfl ?_
   refine yK rfl ?_
   refine aa rfl (ck rfl rfl (by constructor)) ?_
   refine yN ?_
   dsimp only [St.put]
   refine K15 _ ?_
   refine ak rfl (fun _ => ?_) (fun h => by cases h)
   refine yS fun _ K16 => ?_
   refine yR ?_
   refine yA rfl rfl ?_
   refine yN ?_
   dsimp only [St.put]
   refine K16 _ ?_
   refine ax ?_
   refine bp rfl (by constructor) zN zS ?_
   exact vb (by
    have hb : ff r = false := by first | (simp [ff, q1]; done) | (simp [ff, q2]; done)
    have : A.all ff = false := j0 hr hb
    rw [← hA] at this
    simp only [fw, iq, this, Bool.and_false, Bool.false_and])
  have q1 : inB r.id 0 9999 = true := by simpa using hs
  refine yM rfl rfl ?_
  refine yM rfl rfl ?_
  refine yM rfl rfl ?_
  refine aa rfl (bl rfl rfl rfl rfl (bn (by assumption)) (Enc.len _)) ?_
  refine yF rfl rfl rfl rfl ?_
  refine yL rfl rfl rfl ?_
  try dsimp only [St.put]
  refine af rfl (ba rfl rfl rfl (ne _ _ _) ?_)
  refine aa rfl (dv rfl rfl) ?_
  refine ep (fun hs => ?_) (fun hs => ?_)
  ·have q2 : inB r.miss 0 90 = false := by simpa using hs
   refine aa rfl (bz rfl rfl (by constructor)) ?_
   refine yN ?_
   dsimp only [St.put]
   refine K15 _ ?_
   refine ak rfl (fun _ => ?_) (fun h => by cases h)
   refine yS fun _ K17 => ?_
   refine yR ?_
   refine yA rfl rfl ?_
   refine yN ?_
   dsimp only [St.put]
   refine K17 _ ?_
   refine ax ?_
   refine bp rfl (by constructor) zN zS ?_
   exact vb (by
    have hb : ff r = false := by first | (simp [ff, q1]; done) | (simp [ff, q2]; done)
    have : A.all ff = false := j0 hr hb
    rw [← hA] at this
    simp only [fw, iq, this, Bool.and_false, Bool.false_and])
  have q2 : inB r.miss 0 90 = true := by simpa using hs
  have hrb : ff r = true := by simp [ff, q1, q2]
  refine aa rfl (bz rfl rfl (by constructor)) ?_
  refine yN ?_
  dsimp only [St.put]
  refine K15 _ ?_
  refine ak rfl (fun h => by cases h) (fun _ => ?_)
  refine av ?_
  refine K14 _ ?_
  refine yS fun _ K18 => ?_
  refine yR ?_
  refine yA rfl rfl ?_
  refine yN ?_
  dsimp only [St.put]
  refine K18 _ ?_
  refine az ?_
  refine cj 9 ?_
  refine zQ ?_
  refine db (G) zX ?_
  dsimp only
  refine c7 (X := Nat) (fun k => k ≤ i ∧ ∀ y ∈ A.take k, y.id ≠ r.id) (fun k => i - k) (fun k => [(5, .v (.int .i64 (k : Int)))]) (fun k G' => G') 0 rfl ?_ ?_ (fun _ _ h => h) ?_ ?_ ?_
  ·exact ⟨Nat.zero_le _, by simp⟩
  ·exact zF
  ·rintro k hI
   exact zL
  ·exact fun _ _ _ _ h => .inl h
  rintro k hJ
  dsimp only at hJ ⊢
  refine yS fun _ K19 => ?_
  refine yS fun _ K20 => ?_
  refine yR ?_
  refine yM rfl rfl ?_
  refine yM rfl rfl ?_
  refine aa rfl (cn rfl rfl rfl) ?_
  refine yN ?_
  dsimp only [St.put]
  refine K20 _ ?_
  refine ak rfl (fun hc => ?_) (fun hc => ?_)
  ·replace hc := of_decide_eq_true hc
   obtain ⟨y, hy⟩ : ∃ y, A[k]? = some y := cx (by omega)
   refine av ?_
   refine K19 _ ?_
   refine yS fun _ K21 => ?_
   refine az ?_
   refine yS fun _ K22 => ?_
   refine f4 [(0, none), (1, none), (2, none), (3, none), (4, none), (5, none), (6, none), (7, none), (8, none), (9, none), (10, none)] (fun i => [].contains i) (fun i => [].contains i) (fun i => [0, 1, 2, 3, 5, 6, 7, 8, 10].contains i) [] (by kernel_rfl) (by kernel_rfl) ?_
   refine xM rfl rfl rfl rfl rfl ?_
   refine xM rfl rfl rfl rfl rfl ?_
   try dsimp only [St.put]
   refine ae rfl rfl rfl rfl (bl rfl rfl rfl rfl (bn (by assumption)) (Enc.len _)) ?_
   refine ae rfl rfl rfl rfl (cb rfl rfl rfl) ?_
   try dsimp only [St.put]
   refine aw rfl rfl rfl rfl (bv rfl rfl) ?_
   refine xM rfl rfl rfl rfl rfl ?_
   refine xM rfl rfl rfl rfl rfl ?_
   try dsimp only [St.put]
   refine ae rfl rfl rfl rfl (bl rfl rfl rfl rfl (bn (by assumption)) (Enc.len _)) ?_
   refine ae rfl rfl rfl rfl (cb rfl rfl rfl) ?_
   try dsimp only [St.put]
   refine aw rfl rfl rfl rfl (bv rfl rfl) ?_
   refine ae rfl rfl rfl rfl (ir rfl rfl rfl) ?_
   refine bq ?_
   dsimp only [St.put]
   refine K22 _ ?_
   refine ak rfl (fun hc => ?_) (fun hc => ?_)
   ·have hyr : y.id = r.id := of_decide_eq_true hc
    refine yS fun _ K23 => ?_
    refine yR ?_
    refine yA rfl rfl ?_
    refine yN ?_
    dsimp only [St.put]
    refine K23 _ ?_
    refine ax ?_
    refine bp rfl (by constructor) zN zS ?_
    exact vb (by
     have : ¬ (A.map (·.id)).Nodup := xg hy hr (by omega) hyr
     rw [← hA] at this
     simp only [fw, iq, decide_eq_false this, Bool.and_false, Bool.false_and])
   have hne : y.id ≠ r.id := of_decide_eq_false hc
   refine av ?_
   refine K21 _ ?_
   refine yR ?_
   refine yM rfl rfl ?_
   refine aa rfl (br rfl rfl rfl (by omega)) ?_
   refine yA rfl rfl ?_
   refine yN ?_
   dsimp only [St.put]
   exact ⟨k + 1, by omega, ⟨by omega, xo (p := fun y : bx => y.id ≠ r.id) hy hne hJ.2⟩, ⟨⟨rfl, rfl⟩, zF, zB, zN, zX⟩⟩
  replace hc := of_decide_eq_false hc
  have hki : k = i := by omega
  rw [hki] at hJ
  have hnd : r.id ∉ (A.take i).map (·.id) := fun hm => by
   obtain ⟨y, hy1, hy2⟩ := List.mem_map.1 hm
   exact hJ.2 y hy1 hy2
  refine cr ?_
  refine K13 _ ?_
  refine yR ?_
  refine yM rfl rfl ?_
  refine aa rfl (br rfl rfl rfl (by omega)) ?_
  refine yA rfl rfl ?_
  refine yN ?_
  dsimp only [St.put]
  exact ⟨i + 1, by omega, ⟨by omega, by rw [pr hr, hI.2.1, hrb]; rfl, by rw [lf hr]; exact xh hI.2.2 hnd⟩, ⟨⟨rfl, rfl⟩, zF, zB, zN, zX⟩⟩
 replace hc := of_decide_eq_false hc
 have hRB : iq p = true := by
  have h1 := hI.2.1
  have h2 := hI.2.2
  rw [f8 (show A.length ≤ i by omega), ← hA] at h1 h2
  unfold iq
  rw [h1, decide_eq_true h2, decide_eq_true s1, decide_eq_true s2]; rfl
 refine cr ?_
 refine K9 _ ?_
 refine yS fun _ K24 => ?_
 refine yR ?_
 refine yA rfl rfl ?_
 refine yN ?_
 dsimp only [St.put]
 refine K24 _ ?_
 refine yS fun _ K25 => ?_
 refine yS fun _ K26 => ?_
 refine yR ?_
 refine yA rfl rfl ?_
 refine yN ?_
 dsimp only [St.put]
 refine K26 _ ?_
 refine az ?_
 refine cj 9 ?_
 refine zQ ?_
 refine db (G) zX ?_
 dsimp only
 refine c7 (X := Nat) (fun j => j ≤ p.pages.length ∧ ou p j = true) (fun j => p.pages.length - j) (fun j => [(6, .v (.int .i64 (fg p.pages j))), (7, .v (.int .i64 (j : Int))), (8, .any)]) (fun j G' => G') 0 rfl ?_ ?_ (fun _ _ h => h) ?_ ?_ ?_
 ·exact ⟨Nat.zero_le _, rfl⟩
 ·exact zF
 ·rintro j hI
  exact zL
 ·exact fun _ _ _ _ h => .inl h
 rintro j hK
 dsimp only at hK ⊢
 refine yS fun _ K27 => ?_
 refine yS fun _ K28 => ?_
 refine yR ?_
 refine yM rfl rfl ?_
 refine yF rfl rfl rfl rfl ?_
 refine yL rfl rfl rfl ?_
 refine aa rfl (bg rfl rfl (List.length_map _)) ?_
 refine aa rfl (cn rfl rfl rfl) ?_
 refine yN ?_
 dsimp only [St.put]
 refine K28 _ ?_
 refine ak rfl (fun hc => ?_) (fun hc => ?_)
 ·replace hc := of_decide_eq_true hc
  obtain ⟨x, hx⟩ : ∃ x, p.pages[j]? = some x := cx (by omega)
  refine av ?_
  refine K27 _ ?_
  refine yS fun _ K29 => ?_
  refine az ?_
  refine yS fun _ K30 => ?_
  refine yR ?_
  refine yF rfl rfl rfl rfl ?_
  refine yL rfl rfl rfl ?_
  refine yM rfl rfl ?_
  refine aa rfl (bl rfl rfl rfl rfl (bn (by assumption)) (Enc.len _)) ?_
  refine yE rfl rfl rfl ?_
  try dsimp only [St.put]
  refine af rfl (eh rfl ?_)
  try dsimp only [St.put]
  refine af rfl (dt rfl rfl rfl zG rfl rfl (by rfl) ?_)
  refine yN ?_
  dsimp only [St.put]
  refine K30 _ ?_
  refine eo (i := 8) rfl zG zC ?_
  dsimp only
  refine yS fun _ K31 => ?_
  refine cj 9 ?_
  refine zQ ?_
  refine ix (X := Bool) (fun d => l8 p (fg p.pages j) x = !d) (fun d => [(120, .v (.bool d))]) (fun d G' => G') rfl ?_ (fun _ _ _ _ h => .inl h) ?_ ?_
  ·rintro d hI
   exact zL
  ·refine o8 [(0, none), (1, none), (2, none), (3, none), (4, none), (5, none), (6, none), (7, none), (8, none), (9, none), (10, none), (11, none), (12, none), (13, none), (14, none), (15, none)] (fun _ => false) (fun i => [0, 2, 3, 4, 5, 7, 9, 10, 11, 12, 14].contains i) 23 (rl [16, 23]) (by kernel_rfl) (by kernel_rfl) ?_
   refine ae rfl rfl rfl rfl (cb rfl rfl rfl) ?_
   try dsimp only [St.put]
   refine aw rfl rfl rfl rfl (bv rfl rfl) ?_
   refine xM rfl rfl rfl rfl rfl ?_
   refine ae rfl rfl rfl rfl (se rfl rfl rfl) ?_
   refine il (fun hs => ?_) (fun hs => ?_)
   ·have z1 : x.fr ≤ fg p.pages j := of_decide_eq_true hs
    refine xM rfl rfl rfl rfl rfl ?_
    refine ah rfl rfl rfl ?_
    refine ah rfl rfl rfl ?_
    refine ah rfl rfl rfl ?_
    refine ah rfl rfl rfl ?_
    refine ah rfl rfl rfl ?_
    refine ae rfl rfl rfl rfl (ck rfl rfl (by constructor)) ?_
    refine xM rfl rfl rfl rfl rfl ?_
    refine ah rfl rfl rfl ?_
    refine ah rfl rfl rfl ?_
    refine ah rfl rfl rfl ?_
    refine ah rfl rfl rfl ?_
    refine bq ?_
    refine dc [16] (by kernel_rfl) (by simp) ?_
    refine dg ?_ ?_
    ·refine fa rfl rfl rfl ?_
     refine d8 [(17, none), (18, none), (19, none), (20, none), (21, none), (22, none), (23, none), (24, none), (25, none)] (fun i => [17, 18, 19, 20, 22, 24, 25].contains i) 13 (rl [26, 13]) (by kernel_rfl) ?_
     refine ah rfl rfl rfl ?_
     refine ae rfl rfl rfl rfl (ck rfl rfl (by constructor)) ?_
     refine xM rfl rfl rfl rfl rfl ?_
     refine ah rfl rfl rfl ?_
     refine ah rfl rfl rfl ?_
     refine ah rfl rfl rfl ?_
     refine ah rfl rfl rfl ?_
     refine ah rfl rfl rfl ?_
     refine ah rfl rfl rfl ?_
     refine bq ?_
     refine dc [26] (by kernel_rfl) (by simp) ?_
     refine dg ?_ ?_
     ·refine fa rfl rfl rfl ?_
      refine d8 [(27, none), (28, none), (29, none), (30, none), (31, none), (32, none), (33, none), (34, none), (35, none)] (fun i => [27, 28, 29, 30, 32, 34, 35].contains i) 3 (rl [36, 3]) (by kernel_rfl) ?_
      refine ah rfl rfl rfl ?_
      refine ae rfl rfl rfl rfl (ck rfl rfl (by constructor)) ?_
      refine xM rfl rfl rfl rfl rfl ?_
      refine ah rfl rfl rfl ?_
      refine ah rfl rfl rfl ?_
      refine ah rfl rfl rfl ?_
      refine ah rfl rfl rfl ?_
      refine ah rfl rfl rfl ?_
      refine ah rfl rfl rfl ?_
      refine bq ?_
      refine dc [36] (by kernel_rfl) (by simp) ?_
      refine dg ?_ ?_
      ·refine fa rfl rfl rfl ?_
       refine d8 [(37, none), (38, none)] (fun i => [37, 38].contains i) 0 (rl [39]) (by kernel_rfl) ?_
       refine ah rfl rfl rfl ?_
       refine ae rfl rfl rfl rfl (ck rfl rfl (by constructor)) ?_
       refine bq ?_
       dsimp only [St.put]
       refine ge (by kernel_rfl) ?_
       refine ⟨_, ?_, ⟨⟨rfl, rfl⟩, zF, zB, zN, zX⟩⟩
       simp_all [l8]
       try (intro h0; omega)
      exact dd
     exact dd
    exact dd
   have z1 : ¬ x.fr ≤ fg p.pages j := of_decide_eq_false hs
   refine xM rfl rfl rfl rfl rfl ?_
   refine ae rfl rfl rfl rfl (cb rfl rfl rfl) ?_
   try dsimp only [St.put]
   refine aw rfl rfl rfl rfl (bv rfl rfl) ?_
   refine ae rfl rfl rfl rfl (cb rfl rfl rfl) ?_
   try dsimp only [St.put]
   refine aw rfl rfl rfl rfl (bv rfl rfl) ?_
   refine ae rfl rfl rfl rfl (cn rfl rfl rfl) ?_
   refine il (fun hs => ?_) (fun hs => ?_)
   ·have z2 : x.to < x.fr := of_decide_eq_true hs
    refine ae rfl rfl rfl rfl (bz rfl rfl (by constructor)) ?_
    refine xM rfl rfl rfl rfl rfl ?_
    refine ah rfl rfl rfl ?_
    refine ah rfl rfl rfl ?_
    refine ah rfl rfl rfl ?_
    refine ah rfl rfl rfl ?_
    refine bq ?_
    refine dc [16] (by kernel_rfl) (by simp) ?_
    refine dg ?_ ?_
    ·refine fa rfl rfl rfl ?_
     refine d8 [(17, none), (18, none), (19, none), (20, none), (21, none), (22, none), (23, none), (24, none), (25, none)] (fun i => [17, 18, 19, 20, 22, 24, 25].contains i) 13 (rl [26, 13]) (by kernel_rfl) ?_
     refine ah rfl rfl rfl ?_
     refine ae rfl rfl rfl rfl (ck rfl rfl (by constructor)) ?_
     refine xM rfl rfl rfl rfl rfl ?_
     refine ah rfl rfl rfl ?_
     refine ah rfl rfl rfl ?_
     refine ah rfl rfl rfl ?_
     refine ah rfl rfl rfl ?_
     refine ah rfl rfl rfl ?_
     refine ah rfl rfl rfl ?_
     refine bq ?_
     refine dc [26] (by kernel_rfl) (by simp) ?_
     refine dg ?_ ?_
     ·refine fa rfl rfl rfl ?_
      refine d8 [(27, none), (28, none), (29, none), (30, none), (31, none), (32, none), (33, none), (34, none), (35, none)] (fun i => [27, 28, 29, 30, 32, 34, 35].contains i) 3 (rl [36, 3]) (by kernel_rfl) ?_
      refine ah rfl rfl rfl ?_
      refine ae rfl rfl rfl rfl (ck rfl rfl (by constructor)) ?_
      refine xM rfl rfl rfl rfl rfl ?_
      refine ah rfl rfl rfl ?_
      refine ah rfl rfl rfl ?_
      refine ah rfl rfl rfl ?_
      refine ah rfl rfl rfl ?_
      refine ah rfl rfl rfl ?_
      refine ah rfl rfl rfl ?_
      refine bq ?_
      refine dc [36] (by kernel_rfl) (by simp) ?_
      refine dg ?_ ?_
      ·refine fa rfl rfl rfl ?_
       refine d8 [(37, none), (38, none)] (fun i => [37, 38].contains i) 0 (rl [39]) (by kernel_rfl) ?_
       refine ah rfl rfl rfl ?_
       refine ae rfl rfl rfl rfl (ck rfl rfl (by constructor)) ?_
       refine bq ?_
       dsimp only [St.put]
       refine ge (by kernel_rfl) ?_
       refine ⟨_, ?_, ⟨⟨rfl, rfl⟩, zF, zB, zN, zX⟩⟩
       simp_all [l8]
       try (intro h0; omega)
      exact dd
     exact dd
    exact dd
   have z2 : ¬ x.to < x.fr := of_decide_eq_false hs
   refine ae rfl rfl rfl rfl (bz rfl rfl (by constructor)) ?_
   refine xM rfl rfl rfl rfl rfl ?_
   refine ae rfl rfl rfl rfl (cb rfl rfl rfl) ?_
   try dsimp only [St.put]
   refine aw rfl rfl rfl rfl (bv rfl rfl) ?_
   refine ae rfl rfl rfl rfl (cb rfl rfl rfl) ?_
   try dsimp only [St.put]
   refine aw rfl rfl rfl rfl (c := eu p.text) (im (cs := cells p) rfl rfl (show 1 ≤ 4 by decide)) ?_
   refine bq ?_
   refine dc [16] (by kernel_rfl) (by simp) ?_
   refine dg ?_ ?_
   ·try dsimp only [St.put]
    refine gu rfl rfl rfl (ba rfl rfl rfl (ufs p.text ht) ?_)
    refine d8 [(17, none), (18, none), (19, none), (20, none), (21, none), (22, none), (23, none), (24, none), (25, none)] (fun i => [17, 18, 19, 20, 22, 24, 25].contains i) 13 (rl [26, 13]) (by kernel_rfl) ?_
    refine ae rfl rfl rfl rfl (oz rfl rfl rfl) ?_
    refine il (fun hs => ?_) (fun hs => ?_)
    ·have z3 : (lg p.text : Int) ≤ x.to := of_decide_eq_true hs
     refine ae rfl rfl rfl rfl (bz rfl rfl (by constructor)) ?_
     refine xM rfl rfl rfl rfl rfl ?_
     refine ah rfl rfl rfl ?_
     refine ah rfl rfl rfl ?_
     refine ah rfl rfl rfl ?_
     refine ah rfl rfl rfl ?_
     refine ah rfl rfl rfl ?_
     refine ah rfl rfl rfl ?_
     refine bq ?_
     refine dc [26] (by kernel_rfl) (by simp) ?_
     refine dg ?_ ?_
     ·refine fa rfl rfl rfl ?_
      refine d8 [(27, none), (28, none), (29, none), (30, none), (31, none), (32, none), (33, none), (34, none), (35, none)] (fun i => [27, 28, 29, 30, 32, 34, 35].contains i) 3 (rl [36, 3]) (by kernel_rfl) ?_
      refine ah rfl rfl rfl ?_
      refine ae rfl rfl rfl rfl (ck rfl rfl (by constructor)) ?_
      refine xM rfl rfl rfl rfl rfl ?_
      refine ah rfl rfl rfl ?_
      refine ah rfl rfl rfl ?_
      refine ah rfl rfl rfl ?_
      refine ah rfl rfl rfl ?_
      refine ah rfl rfl rfl ?_
      refine ah rfl rfl rfl ?_
      refine bq ?_
      refine dc [36] (by kernel_rfl) (by simp) ?_
      refine dg ?_ ?_
      ·refine fa rfl rfl rfl ?_
       refine d8 [(37, none), (38, none)] (fun i => [37, 38].contains i) 0 (rl [39]) (by kernel_rfl) ?_
       refine ah rfl rfl rfl ?_
       refine ae rfl rfl rfl rfl (ck rfl rfl (by constructor)) ?_
       refine bq ?_
       dsimp only [St.put]
       refine ge (by kernel_rfl) ?_
       refine ⟨_, ?_, ⟨⟨rfl, rfl⟩, zF, zB, zN, zX⟩⟩
       simp_all [l8]
       try (intro h0; omega)
      exact dd
     exact dd
    have z3 : ¬ (lg p.text : Int) ≤ x.to := of_decide_eq_false hs
    refine ae rfl rfl rfl rfl (bz rfl rfl (by constructor)) ?_
    refine xM rfl rfl rfl rfl rfl ?_
    refine ae rfl rfl rfl rfl (cb rfl rfl rfl) ?_
    try dsimp only [St.put]
    refine aw rfl rfl rfl rfl (bv rfl rfl) ?_
    refine ae rfl rfl rfl rfl (cb rfl rfl rfl) ?_
    try dsimp only [St.put]
    refine aw rfl rfl rfl rfl (bv rfl rfl) ?_
    refine ae rfl rfl rfl rfl (bg rfl rfl (List.length_map _)) ?_
    refine ae rfl rfl rfl rfl (gm rfl rfl rfl (by omega)) ?_
    refine bq ?_
    refine dc [26] (by kernel_rfl) (by simp) ?_
    refine dg ?_ ?_
    ·try dsimp only [St.put]
     refine gu rfl rfl rfl (ba rfl rfl rfl (ne _ _ _) ?_)
     refine d8 [(27, none), (28, none), (29, none), (30, none), (31, none), (32, none), (33, none), (34, none), (35, none)] (fun i => [27, 28, 29, 30, 32, 34, 35].contains i) 3 (rl [36, 3]) (by kernel_rfl) ?_
     refine ae rfl rfl rfl rfl (dv rfl rfl) ?_
     refine il (fun hs => ?_) (fun hs => ?_)
     ·have z4 : inB x.fst (-1) ((p.firsts.length : Int) - 1) = false := by simpa using hs
      refine ae rfl rfl rfl rfl (bz rfl rfl (by constructor)) ?_
      refine xM rfl rfl rfl rfl rfl ?_
      refine ah rfl rfl rfl ?_
      refine ah rfl rfl rfl ?_
      refine ah rfl rfl rfl ?_
      refine ah rfl rfl rfl ?_
      refine ah rfl rfl rfl ?_
      refine ah rfl rfl rfl ?_
      refine bq ?_
      refine dc [36] (by kernel_rfl) (by simp) ?_
      refine dg ?_ ?_
      ·refine fa rfl rfl rfl ?_
       refine d8 [(37, none), (38, none)] (fun i => [37, 38].contains i) 0 (rl [39]) (by kernel_rfl) ?_
       refine ah rfl rfl rfl ?_
       refine ae rfl rfl rfl rfl (ck rfl rfl (by constructor)) ?_
       refine bq ?_
       dsimp only [St.put]
       refine ge (by kernel_rfl) ?_
       refine ⟨_, ?_, ⟨⟨rfl, rfl⟩, zF, zB, zN, zX⟩⟩
       simp_all [l8]
       try (intro h0; omega)
      exact dd
     have z4 : inB x.fst (-1) ((p.firsts.length : Int) - 1) = true := by simpa using hs
     refine ae rfl rfl rfl rfl (bz rfl rfl (by constructor)) ?_
     refine xM rfl rfl rfl rfl rfl ?_
     refine ae rfl rfl rfl rfl (cb rfl rfl rfl) ?_
     try dsimp only [St.put]
     refine aw rfl rfl rfl rfl (bv rfl rfl) ?_
     refine ae rfl rfl rfl rfl (cb rfl rfl rfl) ?_
     try dsimp only [St.put]
     refine aw rfl rfl rfl rfl (bv rfl rfl) ?_
     refine ae rfl rfl rfl rfl (bg rfl rfl (List.length_map _)) ?_
     refine ae rfl rfl rfl rfl (gm rfl rfl rfl (by omega)) ?_
     refine bq ?_
     refine dc [36] (by kernel_rfl) (by simp) ?_
     refine dg ?_ ?_
     ·try dsimp only [St.put]
      refine gu rfl rfl rfl (ba rfl rfl rfl (ne _ _ _) ?_)
      refine d8 [(37, none), (38, none)] (fun i => [37, 38].contains i) 0 (rl [39]) (by kernel_rfl) ?_
      refine ae rfl rfl rfl rfl (dv rfl rfl) ?_
      refine il (fun hs => ?_) (fun hs => ?_)
      ·have z5 : inB x.snd (-1) ((p.seconds.length : Int) - 1) = false := by simpa using hs
       refine ae rfl rfl rfl rfl (bz rfl rfl (by constructor)) ?_
       refine bq ?_
       dsimp only [St.put]
       refine ge (by kernel_rfl) ?_
       refine ⟨_, ?_, ⟨⟨rfl, rfl⟩, zF, zB, zN, zX⟩⟩
       simp_all [l8]
       try (intro h0; omega)
      have z5 : inB x.snd (-1) ((p.seconds.length : Int) - 1) = true := by simpa using hs
      refine ae rfl rfl rfl rfl (bz rfl rfl (by constructor)) ?_
      refine bq ?_
      dsimp only [St.put]
      refine ge (by kernel_rfl) ?_
      refine ⟨_, ?_, ⟨⟨rfl, rfl⟩, zF, zB, zN, zX⟩⟩
      simp_all [l8]
      try (intro h0; omega)
     exact dd
    exact dd
   exact dd
  rintro d hst
  dsimp only at hst ⊢
  refine ak rfl (fun hc => ?_) (fun hc => ?_)
  ·have hhd : l8 p (fg p.pages j) x = false := by rw [hst, hc]; rfl
   refine yS fun _ K33 => ?_
   refine yR ?_
   refine yA rfl rfl ?_
   refine yN ?_
   dsimp only [St.put]
   refine K33 _ ?_
   refine ax ?_
   refine bp rfl (by constructor) zN zS ?_
   exact vb (ry hx (by rw [uh, hhd]; rfl)).symm
  have hhd : l8 p (fg p.pages j) x = true := by rw [hst, hc]; rfl
  refine av ?_
  refine K31 _ ?_
  refine yS fun _ K34 => ?_
  refine yS fun _ K35 => ?_
  refine yR ?_
  refine yF rfl rfl rfl rfl ?_
  try dsimp only [St.put]
  refine du rfl (c := eu p.text) (im (cs := cells p) rfl rfl (show 1 ≤ 4 by decide)) ?_
  refine yE rfl rfl rfl ?_
  refine yF rfl rfl rfl rfl ?_
  refine yL rfl rfl rfl ?_
  refine yF rfl rfl rfl rfl ?_
  refine yL rfl rfl rfl ?_
  try dsimp only [St.put]
  refine af rfl (ba rfl rfl rfl (uam p.text x x.fst x.found ht) ?_)
  refine aa rfl (dv rfl rfl) ?_
  refine ep (fun hs => ?_) (fun hs => ?_)
  ·have hf1 : gr p.text x x.fst x.found = false := by simpa using hs
   refine yM rfl rfl ?_
   refine yK rfl ?_
   refine yK rfl ?_
   refine yK rfl ?_
   refine yK rfl ?_
   refine yK rfl ?_
   refine yK rfl ?_
   refine yK rfl ?_
   refine yK rfl ?_
   refine yK rfl ?_
   refine aa rfl (ck rfl rfl (by constructor)) ?_
   refine yN ?_
   dsimp only [St.put]
   refine K35 _ ?_
   refine ak rfl (fun _ => ?_) (fun h => by cases h)
   refine yS fun _ K36 => ?_
   refine yR ?_
   refine yA rfl rfl ?_
   refine yN ?_
   dsimp only [St.put]
   refine K36 _ ?_
   refine ax ?_
   refine bp rfl (by constructor) zN zS ?_
   exact vb (ry hx (by rw [uh, hhd, hf1]; first | rfl | (rw [hf2]; rfl))).symm
  have hf1 : gr p.text x x.fst x.found = true := by simpa using hs
  refine yM rfl rfl ?_
  refine yF rfl rfl rfl rfl ?_
  try dsimp only [St.put]
  refine du rfl (c := eu p.text) (im (cs := cells p) rfl rfl (show 1 ≤ 4 by decide)) ?_
  refine yE rfl rfl rfl ?_
  refine yF rfl rfl rfl rfl ?_
  refine yL rfl rfl rfl ?_
  refine yF rfl rfl rfl rfl ?_
  refine yL rfl rfl rfl ?_
  try dsimp only [St.put]
  refine af rfl (ba rfl rfl rfl (uam p.text x x.snd x.well ht) ?_)
  refine aa rfl (dv rfl rfl) ?_
  refine ep (fun hs => ?_) (fun hs => ?_)
  ·have hf2 : gr p.text x x.snd x.well = false := by simpa using hs
   refine aa rfl (bz rfl rfl (by constructor)) ?_
   refine yN ?_
   dsimp only [St.put]
   refine K35 _ ?_
   refine ak rfl (fun _ => ?_) (fun h => by cases h)
   refine yS fun _ K37 => ?_
   refine yR ?_
   refine yA rfl rfl ?_
   refine yN ?_
   dsimp only [St.put]
   refine K37 _ ?_
   refine ax ?_
   refine bp rfl (by constructor) zN zS ?_
   exact vb (ry hx (by rw [uh, hhd, hf1]; first | rfl | (rw [hf2]; rfl))).symm
  have hf2 : gr p.text x x.snd x.well = true := by simpa using hs
  refine aa rfl (bz rfl rfl (by constructor)) ?_
  refine yN ?_
  dsimp only [St.put]
  refine K35 _ ?_
  refine ak rfl (fun h => by cases h) (fun _ => ?_)
  refine av ?_
  refine K34 _ ?_
  refine yR ?_
  refine yF rfl rfl rfl rfl ?_
  refine yL rfl rfl rfl ?_
  refine yA rfl rfl ?_
  refine yN ?_
  dsimp only [St.put]
  refine K29 _ ?_
  refine yR ?_
  refine yM rfl rfl ?_
  refine aa rfl (br rfl rfl rfl (by omega)) ?_
  refine yA rfl rfl ?_
  refine yN ?_
  dsimp only [St.put]
  rw [← qm hx]
  exact ⟨j + 1, by omega, ⟨by omega, by rw [qa, hK.2, pg hx, uh, hhd, hf1, hf2]; rfl⟩, ⟨⟨rfl, rfl⟩, zF, zB, zN, zX⟩⟩
 replace hc := of_decide_eq_false hc
 obtain rfl : j = p.pages.length := by omega
 refine cr ?_
 refine K25 _ ?_
 refine yS fun _ K38 => ?_
 refine yR ?_
 refine yA rfl rfl ?_
 refine yN ?_
 dsimp only [St.put]
 refine K38 _ ?_
 refine ax ?_
 refine bp rfl (by constructor) zN zS ?_
 exact vb (by unfold fw; rw [hRB, hK.2, decide_eq_true s3]; rfl)
end Go.Proofs.YtgffhbbcpgdjjaaDoor
namespace Go.AB
open Go Go.RowKit
open Go.AB.Enc (cells)
def mg (n : Nat) (F : GObj) (P : Program) (f : FuncId) (args : List C) (r : C) : Prop := ∀ G nx, G n = some F → n < nx → PC P f args G nx fun r' G' nx' => r' = r ∧ G' = G ∧ nx' = nx
theorem jt {n : Nat} {F : GObj} {P : Program} {o : Oper} {st : St} {f : FuncId} [Fun P f] {fv : Operand} {args : List Operand} {ats : Array TypeId} {caps al : List C} {K : St → Prop} {r : C} (ho : o.op = .call { callee := .value fv, args := args.toArray, argTypes := ats }) (hf : evC st fv = .fn (.func f) caps) (has : args.map (evC st) ++ caps = al)
  (hp : mg n F P f al r) (hG : st.G n = some F) (hn : n < st.nx) (h : K (st.put o.dst r)) : EStep P o st K := ucw ho hf has (hp _ _ hG hn) h
theorem ubo {P : Program} {o : Oper} {st : St} {t : TypeId} {x i : Operand} {m j : Nat} {v : Value} {cs : List C} {d : C} {ds : List C} {e : TypeId} {ik : IntKind} {n : Int} {k sz : Nat} {ag : Bool} [ArrT P t m e] [Ty P e ag sz] (ho : o.op = .indexAddr t x i) (hx : evC st x = .v v) (hG : st.G j = some (.fact v (.elem cs))) (hi : evC st i = .v (.int ik n)) (hn : n = (k : Int)) (hk : k < m) (hd : cs.drop (k * sz) = d :: ds) : NStep P o st (.elem (d :: ds)) := fun E w a hs => by
 subst hn
 have e1 := (hi ▸ hs.ev i).v_inv
 have e0 := (hx ▸ hs.ev x).v_inv
 obtain ⟨b, off, us, hv, h1, h2, h3, h4, _⟩ := (hs.g.obj j _ hG).2.elem_inv
 refine ⟨.pointer (some ⟨b, off + k * sz, none⟩), hd ▸ R.elem_drop h1 h2 h3 h4 (k * sz) (by rw [hd]; simp), fun w' => ?_⟩
 have q1 := ArrT.spec (P := P) (t := t) (n := m) (e := e)
 have q2 := Ty.size (P := P) (w := w') (t := e) (ag := ag) (n := sz)
 have q3 : (k : Int) < (m : Int) := by omega
 simp [execOp, ho, Instr.indexAt, Instr.sureAddr, e0, hv, e1, asIntOf, run_underlying q1, q2, q3, pc]
 intro h; omega
end Go.AB
namespace Go.AB
open Go Go.RowKit
open Go.AB.Enc (cells)
open Go.PB (ay aj PlaceD bh bj bi bx aq am cv co dq dp)
/-- the readers that have been looked at -/
def eb (p : am) : Nat → List bx
 | 0 => []
 | 1 => p.firsts
 | _ => p.firsts ++ p.seconds
theorem zq {p : am} : ∀ {k : Nat}, k < 2 → eb p (k + 1) = eb p k ++ cz p (decide (k = 1))
 | 0, _ => rfl
 | 1, _ => rfl
 | k + 2, h => by omega
def okR (l : List bx) : Prop := l.all ff = true ∧ (l.map (·.id)).Nodup
theorem ubc {l : List bx} {r : bx} (h : okR l) (h1 : ff r = true) (h2 : r.id ∉ l.map (·.id)) : okR (l ++ [r]) := by
 refine ⟨by rw [List.all_append, h.1]; simp [h1], ?_⟩
 rw [List.map_append, List.nodup_append]
 refine ⟨h.2, by simp, fun a ha b hb e => ?_⟩
 simp only [List.map_cons, List.map_nil, List.mem_singleton] at hb
 subst hb; subst e
 exact h2 ha
theorem ue7 {p : am} : ∀ {k i : Nat}, k < 2 → (eb p k ++ (cz p (decide (k = 1))).take i) <+: (p.firsts ++ p.seconds)
 | 0, i, _ => by
  show [] ++ p.firsts.take i <+: p.firsts ++ p.seconds
  rw [List.nil_append]
  exact (List.take_prefix i p.firsts).trans (List.prefix_append _ _)
 | 1, i, _ => (List.prefix_append_right_inj p.firsts).2 (List.take_prefix i p.seconds)
 | k + 2, _, h => by omega
theorem uag {p : am} {k i : Nat} {r : bx} (hk : k < 2) (hr : (cz p (decide (k = 1)))[i]? = some r) (hb : ff r = false ∨ r.id ∈ (eb p k ++ (cz p (decide (k = 1))).take i).map (·.id)) : fw p = false := by
 have hpre := ue7 (p := p) (k := k) (i := i + 1) hk
 rw [List.take_add_one, hr, Option.toList_some, ← List.append_assoc] at hpre
 unfold fw iq
 rcases hb with h | h
 ·have : (p.firsts ++ p.seconds).all ff = false := List.all_eq_false.2 ⟨r, hpre.subset (by simp), by rw [h]; simp⟩
  rw [this]; simp
 have : ¬ ((p.firsts ++ p.seconds).map (·.id)).Nodup := fun hn => by
  have h2 := hn.sublist (List.Sublist.map (·.id) hpre.sublist)
  rw [List.map_append, List.nodup_append] at h2
  exact h2.2.2 _ h r.id (by simp) rfl
 rw [decide_eq_false this]; simp
theorem ubt {p : am} {b : Bool} (h : ¬ (cz p b).length ≤ 3) : fw p = false := by
 unfold fw iq
 cases b
 ·rw [decide_eq_false (show ¬ p.firsts.length ≤ 3 from h)]; simp
 rw [decide_eq_false (show ¬ p.seconds.length ≤ 3 from h)]; simp
theorem uay {p : am} (h : ¬ p.pages.length ≤ 8) : fw p = false := by
 unfold fw
 rw [decide_eq_false h]; simp
theorem ub1 {l : List bx} (r : bx) : jq (fy (l.map (·.id))) r.id (.v (.bool true)) = fy ((l ++ [r]).map (·.id)) := by
 funext x
 unfold jq fy
 rw [List.map_append]
 by_cases hx : x = r.id
 ·simp [hx]
 simp [hx]
/-- a side of a page is as it may be -/
def p7 (p : am) (x : aq) (b : Bool) : Bool := inB (fp b x) (-1) (((cz p b).length : Int) - 1) && gr p.text x (fp b x) (bu b x)
def lu (p : am) (last : Int) (x : aq) : Bool := decide (last < x.fr) && decide (x.fr ≤ x.to) && decide (x.to < (lg p.text : Int))
def j7 (p : am) (last : Int) (x : aq) : Nat → Bool
 | 0 => lu p last x
 | k + 1 => j7 p last x k && p7 p x (decide (k = 1))
theorem zo (p : am) (last : Int) (x : aq) : j7 p last x 2 = ka p last x := by
 show ((lu p last x && p7 p x false) && p7 p x true) = _
 unfold lu p7 ka
 cases decide (last < x.fr) <;> cases decide (x.fr ≤ x.to) <;> cases decide (x.to < (lg p.text : Int)) <;> simp [cz, fp, bu, Bool.and_assoc]
/-- where proofs are opened -/
def ow (p : am) : C := bif decide (em p = 0) then .elem [lst p.text, lst p.firsts, lst p.seconds, lst p.pages, lst (p.pages.map fun x => (dw p.text x : Int)), lst (p.pages.map (ca p.text)), lst (p.pages.map (bf p.text))] else .v (.pointer none)
theorem ubd (m : Nat) (p : am) : C.low m (ow p) := by
 unfold ow
 cases decide (em p = 0)
 ·exact .v
 refine .elem fun c hc => ?_
 simp only [List.mem_cons, List.not_mem_nil, or_false] at hc
 rcases hc with rfl | rfl | rfl | rfl | rfl | rfl | rfl <;> exact ar m _
theorem xd {p : am} (h : em p = 0) : ow p = .elem [lst p.text, lst p.firsts, lst p.seconds, lst p.pages, lst (p.pages.map fun x => (dw p.text x : Int)), lst (p.pages.map (ca p.text)), lst (p.pages.map (bf p.text))] := by unfold ow; rw [decide_eq_true h]; rfl
theorem r9 {p : am} (h : em p ≠ 0) : ow p = .v (.pointer none) := by unfold ow; rw [decide_eq_false h]; rfl
theorem pd {α : Type} {l : List α} {k : Nat} {x : α} (h : l[k]? = some x) : l.take (k + 1) = l.take k ++ [x] := by rw [List.take_add_one, h]; rfl
theorem nil_len {α : Type} {l : List α} : l = [] ↔ (l.length : Int) = 0 := by
 constructor
 ·rintro rfl; rfl
 intro h; exact List.eq_nil_of_length_eq_zero (by omega)
theorem e8 {t : aj} {x : aq} {l : List PlaceD} {i : Nat} {q : PlaceD} (h : l[i]? = some q) : i7 t x l i = (ey t q && el t x q && (decide (i = 0) || match l[i - 1]? with | none => true | some a => mf a q)) := by unfold i7; rw [h]; rfl
theorem uil {p : am} (h : dl p.text = false) : em p = 10 := by unfold em; rw [h]; rfl
theorem vm {p : am} (h : dl p.text = true) (hp : fw p = false) : em p = 90 := by unfold em; rw [h, hp]; rfl
theorem uim {p : am} (h : dl p.text = true) (hp : fw p = true) : em p = 0 := by unfold em; rw [h, hp]; rfl
end Go.AB
namespace Go.Proofs.YtgffhbbcpgdjjaaDoor
set_option maxRecDepth 10000
open Go Go.RowKit Go.AB
open Go.AB.Enc (cells)
open Go.PB (ay aj PlaceD bh bj bi bx aq am cv co dq dp)
set_option maxHeartbeats 4000000 in
theorem w9 (n : Nat) (p : am) : mg n j8 Tryd.prog 39 [val p] (.tup [ow p, .v (.int .i64 (em p))]) := fun G nx hF hnx => by
 refine kp (G) (nx) Tryd.func39 rfl (.tup (bk (ubd _ _) (bk .v cg))) zN (fun hlt => zH) ?_
 simp only [Tryd.ntmps39, List.length_cons, List.length_nil, Nat.reduceAdd, Nat.reduceSub]
 refine ct fun hlt => ?_
 dsimp only at hlt
 refine yS fun _ K1 => ?_
 refine yR ?_
 try dsimp only [St.put]
 refine yB rfl rfl rfl ?_
 refine yA rfl rfl ?_
 refine yA rfl rfl ?_
 refine yN ?_
 dsimp only [St.put]
 refine K1 _ ?_
 refine yv ?_
 refine yS fun _ K2 => ?_
 refine yS fun _ K3 => ?_
 refine yR ?_
 refine yF rfl rfl rfl rfl ?_
 try dsimp only [St.put]
 refine du rfl (c := eu p.text) (im (cs := cells p) rfl rfl (show 1 ≤ 4 by decide)) ?_
 try dsimp only [St.put]
 refine af rfl (ba rfl rfl rfl (ubx p.text) ?_)
 refine yA rfl rfl ?_
 refine yN ?_
 dsimp only [St.put]
 refine K3 _ ?_
 refine yS fun _ K4 => ?_
 refine yR ?_
 refine yM rfl rfl ?_
 refine aa rfl (fj rfl rfl rfl) ?_
 refine yN ?_
 dsimp only [St.put]
 refine K4 _ ?_
 refine ak rfl (fun hc => ?_) (fun hc => ?_)
 ·have ht : dl p.text = false := by
   have h0 := ia hc
   unfold ie at h0
   cases h1 : dl p.text
   ·rfl
   rw [h1] at h0; exact absurd rfl h0
  have hE : em p = 10 := uil ht
  have hR : ie p.text = 10 := by simp [ie, ht]
  refine yS fun _ K5 => ?_
  refine yR ?_
  refine yM rfl rfl ?_
  refine yA rfl rfl ?_
  refine yA rfl rfl ?_
  refine yN ?_
  dsimp only [St.put]
  refine K5 _ ?_
  refine ax ?_
  refine gx rfl (by constructor) (by constructor) zN zS ?_ ?_
  ·rw [r9 (by rw [hE]; decide)]
  rw [hE, hR]
 have ht : dl p.text = true := by
  have h0 := gw hc
  unfold ie at h0
  cases h1 : dl p.text
  ·rw [h1] at h0; cases h0
  rfl
 obtain ⟨hl1, hl2, hl3⟩ := jo ht
 have hll : lg p.text ≤ 60 := og ht _ (Nat.le_refl _)
 refine av ?_
 refine K2 _ ?_
 refine yS fun _ K6 => ?_
 refine yR ?_
 refine yF rfl rfl rfl rfl ?_
 try dsimp only [St.put]
 refine du rfl (c := eu p.text) (im (cs := cells p) rfl rfl (show 1 ≤ 4 by decide)) ?_
 try dsimp only [St.put]
 refine af rfl (ba rfl rfl rfl (ua1 p.text ht) ?_)
 refine yM rfl rfl ?_
 refine yX rfl rfl rfl rfl ?_
 refine yX rfl rfl rfl rfl ?_
 refine yA rfl rfl ?_
 refine yA rfl rfl ?_
 refine yN ?_
 dsimp only [St.put]
 refine K6 _ ?_
 refine yS fun _ K7 => ?_
 refine yR ?_
 try dsimp only [St.put]
 refine af rfl (qv (α := Int) rfl ?_)
 refine yA rfl rfl ?_
 refine yN ?_
 dsimp only [St.put]
 refine K7 _ ?_
 refine yS fun _ K8 => ?_
 refine yS fun _ K9 => ?_
 refine yR ?_
 try dsimp only [St.put]
 refine du rfl (tw (n := 6) (m := n) rfl rfl zG rfl) ?_
 refine yM rfl rfl ?_
 refine yN ?_
 dsimp only [St.put]
 refine K9 _ ?_
 refine az ?_
 refine cj 38 ?_
 refine zQ ?_
 refine db (ai G nx (fe Tryd.prog 3 0 fun _ => none)) zX ?_
 dsimp only
 refine c7 (X := Nat) (fun k => k ≤ 2 ∧ okR (eb p k) ∧ ((0 < k → p.firsts.length ≤ 3) ∧ (1 < k → p.seconds.length ≤ 3))) (fun k => 2 - k) (fun k => [(9, .any), (11, .any), (37, .v (.int .i64 (k : Int)))]) (fun k G' => (ai G (nx) (fe Tryd.prog 3 (((eb p k).length)) (fy (((eb p k)).map (·.id)))))) 0 rfl ?_ ?_ ?_ ?_ ?_ ?_
 ·exact ⟨by omega, ⟨rfl, List.nodup_nil⟩, fun h => absurd h (Nat.lt_irrefl _), fun h => by omega⟩
 ·exact zF
 ·rw [show fy ((eb p 0).map (·.id)) = fun _ => none from x7]
  exact zX
 ·rintro k hI
  exact (by (try dsimp only); repeat' (first | exact trivial | refine ⟨?_, ?_⟩ | exact .v | exact .any | refine .elem ?_ | exact ar _ _ | exact c6 _ _ | exact cw _ _ | exact cy _ (by (try dsimp only); omega) | exact .box (by (try dsimp only); omega) | exact c5 | exact cg | exact ei (gj _ _) | refine c4 ?_ ?_ | exact .arr (by (try dsimp only); omega) | exact .own (by (try dsimp only); omega) | exact .map (by (try dsimp only); omega) | exact cc _ | refine bk ?_ ?_ | exact ar _ _))
 ·rintro k hI
  exact (by (repeat' (refine et ?_ (by (try dsimp only); omega) ?_)); all_goals (first | exact fq zS | (repeat' (first | exact trivial | refine ⟨?_, ?_⟩ | exact .v | exact .any | refine .elem ?_ | exact ar _ _ | exact c6 _ _ | exact cw _ _ | exact cy _ (by (try dsimp only); omega) | exact .box (by (try dsimp only); omega) | exact c5 | exact cg | exact ei (gj _ _) | refine c4 ?_ ?_ | exact .arr (by (try dsimp only); omega) | exact .own (by (try dsimp only); omega) | exact .map (by (try dsimp only); omega) | exact cc _ | refine bk ?_ ?_ | exact ar _ _))))
 rintro k hI
 dsimp only at hI ⊢
 refine yS fun _ K10 => ?_
 refine yR ?_
 refine aa rfl (cn rfl rfl rfl) ?_
 refine yN ?_
 dsimp only [St.put]
 refine K10 _ ?_
 refine yS fun _ K11 => ?_
 refine ak rfl (fun hc => ?_) (fun hc => ?_)
 ·replace hc := of_decide_eq_true hc
  have hk : k < 2 := by omega
  refine av ?_
  refine K11 _ ?_
  refine yS fun _ K12 => ?_
  refine az ?_
  refine yS fun _ K13 => ?_
  refine yR ?_
  refine aa rfl (un (k := k) (m := 2) (sz := 3) rfl rfl rfl rfl hk (tr hk)) ?_
  try dsimp only [St.put]
  refine af rfl (eh rfl ?_)
  try dsimp only [St.put]
  refine af rfl (dt rfl rfl rfl zG rfl rfl (by rfl) ?_)
  refine yN ?_
  dsimp only [St.put]
  refine K13 _ ?_
  refine eo (i := 9) rfl zG zC ?_
  dsimp only
  refine yS fun _ K14 => ?_
  refine yS fun _ K15 => ?_
  refine yR ?_
  refine yF rfl rfl rfl rfl ?_
  refine yL rfl rfl rfl ?_
  refine yE rfl rfl rfl ?_
  try dsimp only [St.put]
  refine af rfl (ba rfl rfl rfl (oh (decide (k = 1)) p) ?_)
  refine aa rfl (bg rfl rfl (List.length_map _)) ?_
  refine aa rfl (gq rfl rfl rfl) ?_
  refine yN ?_
  dsimp only [St.put]
  refine K15 _ ?_
  refine ak rfl (fun hc => ?_) (fun hc => ?_)
  ·have hs3 : ¬ (cz p (decide (k = 1))).length ≤ 3 := by
    have := of_decide_eq_true hc
    omega
   have hE : em p = 90 := vm ht (ubt hs3)
   refine yS fun _ K16 => ?_
   refine yR ?_
   refine yA rfl rfl ?_
   refine yA rfl rfl ?_
   refine yN ?_
   dsimp only [St.put]
   refine K16 _ ?_
   refine ax ?_
   refine gx rfl (by constructor) (by constructor) zN zS ?_ ?_
   ·rw [r9 (by rw [hE]; decide)]
   rw [hE]
  have hs3 : (cz p (decide (k = 1))).length ≤ 3 := by
   have := of_decide_eq_false hc
   omega
  refine av ?_
  refine K14 _ ?_
  refine yS fun _ K17 => ?_
  refine yR ?_
  refine yF rfl rfl rfl rfl ?_
  refine yL rfl rfl rfl ?_
  refine yE rfl rfl rfl ?_
  try dsimp only [St.put]
  refine af rfl (ba rfl rfl rfl (oh (decide (k = 1)) p) ?_)
  refine aa rfl (bg rfl rfl (List.length_map _)) ?_
  refine yM rfl rfl ?_
  refine yN ?_
  dsimp only [St.put]
  rw [show fy ((eb p k).map (·.id)) = fy ((eb p k ++ (cz p (decide (k = 1))).take 0).map (·.id)) by simp]
  refine K17 _ ?_
  refine az ?_
  refine cj 52 ?_
  refine zQ ?_
  refine db ((ai G (nx) (fe Tryd.prog 3 (((eb p k).length)) (fy (((eb p k ++ (cz p (decide (k = 1))).take 0)).map (·.id)))))) zX ?_
  dsimp only
  refine c7 (X := Nat) (fun i => i ≤ (cz p (decide (k = 1))).length ∧ okR (eb p k ++ (cz p (decide (k = 1))).take i)) (fun i => (cz p (decide (k = 1))).length - i) (fun i => [(11, .any), (51, .v (.int .i64 (i : Int)))]) (fun i G' => (ai G (nx) (fe Tryd.prog 3 (((eb p k ++ (cz p (decide (k = 1))).take i).length)) (fy (((eb p k ++ (cz p (decide (k = 1))).take i)).map (·.id)))))) 0 rfl ?_ ?_ ?_ ?_ ?_ ?_
  ·exact ⟨Nat.zero_le _, by simpa using hI.2.1⟩
  ·exact zF
  ·rw [show (eb p k ++ (cz p (decide (k = 1))).take 0).length = (eb p k).length by simp]
   exact zX
  ·rintro i hI
   exact (by (try dsimp only); repeat' (first | exact trivial | refine ⟨?_, ?_⟩ | exact .v | exact .any | refine .elem ?_ | exact ar _ _ | exact c6 _ _ | exact cw _ _ | exact cy _ (by (try dsimp only); omega) | exact .box (by (try dsimp only); omega) | exact c5 | exact cg | exact ei (gj _ _) | refine c4 ?_ ?_ | exact .arr (by (try dsimp only); omega) | exact .own (by (try dsimp only); omega) | exact .map (by (try dsimp only); omega) | exact cc _ | refine bk ?_ ?_ | exact ar _ _))
  ·rintro i hI
   exact (by (repeat' (refine et ?_ (by (try dsimp only); omega) ?_)); all_goals (first | exact fq zS | (repeat' (first | exact trivial | refine ⟨?_, ?_⟩ | exact .v | exact .any | refine .elem ?_ | exact ar _ _ | exact c6 _ _ | exact cw _ _ | exact cy _ (by (try dsimp only); omega) | exact .box (by (try dsimp only); omega) | exact c5 | exact cg | exact ei (gj _ _) | refine c4 ?_ ?_ | exact .arr (by (try dsimp only); omega) | exact .own (by (try dsimp only); omega) | exact .map (by (try dsimp only); omega) | exact cc _ | refine bk ?_ ?_ | exact ar _ _))))
  rintro i hJ
  dsimp only at hJ ⊢
  refine yS fun _ K18 => ?_
  refine yR ?_
  refine aa rfl (cn rfl rfl rfl) ?_
  refine yN ?_
  dsimp only [St.put]
  refine K18 _ ?_
  refine yS fun _ K19 => ?_
  refine ak rfl (fun hc => ?_) (fun hc => ?_)
  ·replace hc := of_decide_eq_true hc
   obtain ⟨r, hr⟩ : ∃ r, (cz p (decide (k = 1)))[i]? = some r := cx (by omega)
   obtain ⟨L, hL⟩ : ∃ L, eb p k ++ (cz p (decide (k = 1))).take i = L := ⟨_, rfl⟩
   refine av ?_
   refine K19 _ ?_
   refine yS fun _ K20 => ?_
   refine az ?_
   refine yS fun _ K21 => ?_
   refine yR ?_
   refine aa rfl (bl rfl rfl rfl rfl (bn (by assumption)) (Enc.len _)) ?_
   refine yE rfl rfl rfl ?_
   try dsimp only [St.put]
   refine af rfl (eh rfl ?_)
   try dsimp only [St.put]
   refine af rfl (dt rfl rfl rfl zG rfl rfl (by rfl) ?_)
   refine yN ?_
   dsimp only [St.put]
   refine K21 _ ?_
   refine eo (i := 11) rfl zG zC ?_
   dsimp only
   refine yS fun _ K22 => ?_
   refine cj 52 ?_
   refine zQ ?_
   refine ix (X := Bool) (fun d => d = !(ff r && !decide (r.id ∈ (eb p k ++ (cz p (decide (k = 1))).take i).map (·.id)))) (fun d => [(72, .v (.bool d))]) (fun d G' => G') rfl ?_ (fun _ _ _ _ h => .inl h) ?_ ?_
   ·rintro d hI
    exact (by (try dsimp only); repeat' (first | exact trivial | refine ⟨?_, ?_⟩ | exact .v | exact .any | refine .elem ?_ | exact ar _ _ | exact c6 _ _ | exact cw _ _ | exact cy _ (by (try dsimp only); omega) | exact .box (by (try dsimp only); omega) | exact c5 | exact cg | exact ei (gj _ _) | refine c4 ?_ ?_ | exact .arr (by (try dsimp only); omega) | exact .own (by (try dsimp only); omega) | exact .map (by (try dsimp only); omega) | exact cc _ | refine bk ?_ ?_ | exact ar _ _))
   ·refine yR ?_
    refine yF rfl rfl rfl rfl ?_
    refine yL rfl rfl rfl ?_
    try dsimp only [St.put]
    refine af rfl (ef rfl rfl rfl (by decide) (by decide) zR (by decide) ?_)
    try dsimp only [St.put]
    refine af rfl (ba rfl rfl rfl (jh _ _ [_]) ?_)
    refine aa rfl (dv rfl rfl) ?_
    refine yM rfl rfl ?_
    refine ep (fun hs => ?_) (fun hs => ?_)
    ·have h5 : inB r.id 0 9999 = false := by rw [er] at hs; simpa using hs
     refine yK rfl ?_
     refine yK rfl ?_
     refine yK rfl ?_
     refine yK rfl ?_
     refine aa rfl (ck rfl rfl (by constructor)) ?_
     refine yM rfl rfl ?_
     refine yK rfl ?_
     refine yK rfl ?_
     refine yK rfl ?_
     refine yK rfl ?_
     refine yK rfl ?_
     refine aa rfl (ck rfl rfl (by constructor)) ?_
     refine yN ?_
     dsimp only [St.put]
     refine ⟨_, ?_, ⟨⟨rfl, rfl⟩, zF, zB, zN, zX⟩⟩
     unfold ff
     first
     | (rw [h5]; simp; done)
     | (rw [decide_eq_true h11]; simp; done)
     | (rw [h5, decide_eq_false h11, er]; simp)
    have h5 : inB r.id 0 9999 = true := by rw [er] at hs; simpa using hs
    refine yM rfl rfl ?_
    refine yF rfl rfl rfl rfl ?_
    refine yL rfl rfl rfl ?_
    try dsimp only [St.put]
    refine du rfl (na r.id rfl rfl zG trivial rfl (x8 _ _)) ?_
    refine aa rfl (bz rfl rfl (by constructor)) ?_
    refine yM rfl rfl ?_
    refine ep (fun hs => ?_) (fun hs => ?_)
    ·have h11 := of_decide_eq_true hs
     refine yK rfl ?_
     refine yK rfl ?_
     refine yK rfl ?_
     refine yK rfl ?_
     refine yK rfl ?_
     refine aa rfl (ck rfl rfl (by constructor)) ?_
     refine yN ?_
     dsimp only [St.put]
     refine ⟨_, ?_, ⟨⟨rfl, rfl⟩, zF, zB, zN, zX⟩⟩
     unfold ff
     first
     | (rw [h5]; simp; done)
     | (rw [decide_eq_true h11]; simp; done)
     | (rw [h5, decide_eq_false h11, er]; simp)
    have h11 := of_decide_eq_false hs
    refine yF rfl rfl rfl rfl ?_
    refine yL rfl rfl rfl ?_
    try dsimp only [St.put]
    refine af rfl (ef rfl rfl rfl (by decide) (by decide) zR (by decide) ?_)
    try dsimp only [St.put]
    refine af rfl (ba rfl rfl rfl (jh _ _ [_]) ?_)
    refine aa rfl (dv rfl rfl) ?_
    refine aa rfl (bz rfl rfl (by constructor)) ?_
    refine yN ?_
    dsimp only [St.put]
    refine ⟨_, ?_, ⟨⟨rfl, rfl⟩, zF, zB, zN, zX⟩⟩
    unfold ff
    first
    | (rw [h5]; simp; done)
    | (rw [decide_eq_true h11]; simp; done)
    | (rw [h5, decide_eq_false h11, er]; simp)
   rintro d hst
   dsimp only at hst ⊢
   refine ak rfl (fun hc => ?_) (fun hc => ?_)
   ·have hbad : ff r = false ∨ r.id ∈ (eb p k ++ (cz p (decide (k = 1))).take i).map (·.id) := by
     rw [hc] at hst
     cases h1 : ff r
     ·exact .inl rfl
     rw [h1] at hst
     right
     exact Classical.byContradiction fun h2 => by rw [decide_eq_false h2] at hst; cases hst
    have hE : em p = 90 := vm ht (uag hk hr hbad)
    refine yS fun _ K24 => ?_
    refine yR ?_
    refine yA rfl rfl ?_
    refine yA rfl rfl ?_
    refine yN ?_
    dsimp only [St.put]
    refine K24 _ ?_
    refine ax ?_
    refine gx rfl (by constructor) (by constructor) zN zS ?_ ?_
    ·rw [r9 (by rw [hE]; decide)]
    rw [hE]
   have hgood : ff r = true ∧ r.id ∉ (eb p k ++ (cz p (decide (k = 1))).take i).map (·.id) := by
    rw [hc] at hst
    cases h1 : ff r
    ·rw [h1] at hst; cases hst
    rw [h1] at hst
    exact ⟨rfl, fun h2 => by rw [decide_eq_true h2] at hst; cases hst⟩
   refine av ?_
   refine K22 _ ?_
   refine yR ?_
   refine yM rfl rfl ?_
   refine yF rfl rfl rfl rfl ?_
   refine yL rfl rfl rfl ?_
   try dsimp only [St.put]
   refine af rfl (lk (r.id) rfl rfl rfl zG rfl ((show jq (fy ((eb p k ++ (cz p (decide (k = 1))).take i).map (·.id))) r.id (.v (.bool true)) = fy ((eb p k ++ (cz p (decide (k = 1))).take (i + 1)).map (·.id)) from by rw [pd hr, ← List.append_assoc]; exact ub1 r)) ?_)
   refine yN ?_
   dsimp only [St.put]
   refine K20 _ ?_
   refine yR ?_
   refine aa rfl (br rfl rfl rfl (by omega)) ?_
   refine yM rfl rfl ?_
   refine yN ?_
   dsimp only [St.put]
   rw [show (eb p k ++ (cz p (decide (k = 1))).take i).length + 1 = (eb p k ++ (cz p (decide (k = 1))).take (i + 1)).length by rw [pd hr, ← List.append_assoc, List.length_append (bs := [r])]; rfl]
   exact ⟨i + 1, by omega, ⟨by omega, by rw [pd hr, ← List.append_assoc]; exact ubc hJ.2 hgood.1 hgood.2⟩, ⟨⟨rfl, rfl⟩, zF, zB, zN, zX⟩⟩
  replace hc := of_decide_eq_false hc
  refine cr ?_
  refine K12 _ ?_
  refine yR ?_
  refine aa rfl (br rfl rfl rfl (by omega)) ?_
  refine yM rfl rfl ?_
  refine yN ?_
  dsimp only [St.put]
  rw [show eb p k ++ (cz p (decide (k = 1))).take i = eb p (k + 1) by rw [zq hk, f8 (by omega)]] at hJ ⊢
  exact ⟨k + 1, by omega, ⟨by omega, hJ.2, by
   have h3 := hI.2.2
   by_cases e : k = 0
   ·subst e; exact ⟨fun _ => hs3, fun h => by omega⟩
   have e1 : k = 1 := by omega
   subst e1; exact ⟨fun _ => h3.1 (by omega), fun _ => hs3⟩⟩, ⟨⟨rfl, rfl⟩, zF, zB, zN, zX⟩⟩
 replace hc := of_decide_eq_false hc
 obtain rfl : k = 2 := by omega
 have hRB : iq p = true := by
  unfold iq
  have h2 := hI.2.1
  have h3 := hI.2.2
  rw [decide_eq_true (h3.1 (by omega)), decide_eq_true (h3.2 (by omega)), show (p.firsts ++ p.seconds).all ff = true from h2.1, decide_eq_true (show ((p.firsts ++ p.seconds).map (·.id)).Nodup from h2.2)]; rfl
 have hn1 : p.firsts.length ≤ 3 := hI.2.2.1 (by omega)
 have hn2 : p.seconds.length ≤ 3 := hI.2.2.2 (by omega)
 have hsl : ∀ b, (cz p b).length ≤ 3 := fun b => by cases b; exact hn1; exact hn2
 refine cr ?_
 refine K8 _ ?_
 refine yS fun _ K25 => ?_
 refine yS fun _ K26 => ?_
 refine yR ?_
 refine yF rfl rfl rfl rfl ?_
 refine yL rfl rfl rfl ?_
 refine aa rfl (bg rfl rfl (List.length_map _)) ?_
 refine aa rfl (gq rfl rfl rfl) ?_
 refine yN ?_
 dsimp only [St.put]
 refine K26 _ ?_
 refine ak rfl (fun hc => ?_) (fun hc => ?_)
 ·have hnp : ¬ p.pages.length ≤ 8 := by
   have := of_decide_eq_true hc
   omega
  have hE : em p = 90 := vm ht (uay hnp)
  refine yS fun _ K27 => ?_
  refine yR ?_
  refine yA rfl rfl ?_
  refine yA rfl rfl ?_
  refine yN ?_
  dsimp only [St.put]
  refine K27 _ ?_
  refine ax ?_
  refine gx rfl (by constructor) (by constructor) zN zS ?_ ?_
  ·rw [r9 (by rw [hE]; decide)]
  rw [hE]
 have hnp : p.pages.length ≤ 8 := by
  have := of_decide_eq_false hc
  omega
 refine av ?_
 refine K25 _ ?_
 refine yS fun _ K28 => ?_
 refine yR ?_
 refine yE rfl rfl rfl ?_
 refine aa rfl (l5 rfl rfl) ?_
 try dsimp only [St.put]
 refine af rfl (ucx rfl rfl ?_)
 refine yA rfl rfl ?_
 refine yN ?_
 dsimp only [St.put]
 refine K28 _ ?_
 refine o9 (nx + 1) 4 _ _ 3 1 zG rfl (by decide) ?_
 refine o9 (nx + 1) 5 _ _ 36 1 zG rfl (by decide) ?_
 refine o9 (nx + 1) 6 _ _ 36 1 zG rfl (by decide) ?_
 dsimp only [List.set_cons_zero, List.set_cons_succ]
 refine yS fun _ K29 => ?_
 refine yR ?_
 refine yA rfl rfl ?_
 refine yN ?_
 dsimp only [St.put]
 refine K29 _ ?_
 refine yS fun _ K30 => ?_
 refine yR ?_
 refine yA rfl rfl ?_
 refine yN ?_
 dsimp only [St.put]
 refine K30 _ ?_
 refine yS fun _ K31 => ?_
 refine yw ?_
 refine K31 _ ?_
 refine yS fun _ K32 => ?_
 refine yS fun _ K33 => ?_
 refine yR ?_
 refine yF rfl rfl rfl rfl ?_
 refine yL rfl rfl rfl ?_
 refine aa rfl (bg rfl rfl (List.length_map _)) ?_
 refine yM rfl rfl ?_
 refine yN ?_
 dsimp only [St.put]
 refine K33 _ ?_
 refine az ?_
 refine cj 89 ?_
 refine zQ ?_
 refine db ((ai (ai (ai (ai G (nx + 1) (.box (0 + 0 + 0) [lst p.text, lst p.firsts, lst p.seconds, lst p.pages, .list (((p.pages.take 0).map fun x => (dw p.text x : Int)).map cells) (.tip (nx + 1 + 1)), .list (((p.pages.take 0).map (ca p.text)).map cells) (.tip (nx + 1 + 1 + 1)), .list (((p.pages.take 0).map (bf p.text)).map cells) (.tip (nx + 1 + 1 + 1 + 1))])) (nx + 1 + 1) (.tip ((p.pages.take 0).map fun x => (dw p.text x : Int)).length 3 1)) (nx + 1 + 1 + 1) (.tip ((p.pages.take 0).map (ca p.text)).length 36 1)) (nx + 1 + 1 + 1 + 1) (.tip ((p.pages.take 0).map (bf p.text)).length 36 1))) zX ?_
 dsimp only
 refine c7 (X := Nat) (fun j => j ≤ p.pages.length ∧ ou p j = true) (fun j => p.pages.length - j) (fun j => [(13, .v (.int .i64 (fg p.pages j))), (16, .any), (18, .any), (19, .any), (20, .any), (21, .any), (22, .any), (88, .v (.int .i64 (j : Int)))]) (fun j G' => (ai (ai (ai (ai G (nx + 1) (.box (j + j + j) [lst p.text, lst p.firsts, lst p.seconds, lst p.pages, .list (((p.pages.take j).map fun x => (dw p.text x : Int)).map cells) (.tip (nx + 1 + 1)), .list (((p.pages.take j).map (ca p.text)).map cells) (.tip (nx + 1 + 1 + 1)), .list (((p.pages.take j).map (bf p.text)).map cells) (.tip (nx + 1 + 1 + 1 + 1))])) (nx + 1 + 1) (.tip ((p.pages.take j).map fun x => (dw p.text x : Int)).length 3 1)) (nx + 1 + 1 + 1) (.tip ((p.pages.take j).map (ca p.text)).length 36 1)) (nx + 1 + 1 + 1 + 1) (.tip ((p.pages.take j).map (bf p.text)).length 36 1))) 0 rfl ?_ ?_ ?_ ?_ ?_ ?_
 ·exact ⟨Nat.zero_le _, rfl⟩
 ·exact zF
 ·exact zX
 ·rintro j hI
  exact (by (try dsimp only); repeat' (first | exact trivial | refine ⟨?_, ?_⟩ | exact .v | exact .any | refine .elem ?_ | exact ar _ _ | exact c6 _ _ | exact cw _ _ | exact cy _ (by (try dsimp only); omega) | exact .box (by (try dsimp only); omega) | exact c5 | exact cg | exact ei (gj _ _) | refine c4 ?_ ?_ | exact .arr (by (try dsimp only); omega) | exact .own (by (try dsimp only); omega) | exact .map (by (try dsimp only); omega) | exact cc _ | refine bk ?_ ?_ | exact ar _ _))
 ·rintro j hI
  exact (by (repeat' (refine et ?_ (by (try dsimp only); omega) ?_)); all_goals (first | exact fq zS | (repeat' (first | exact trivial | refine ⟨?_, ?_⟩ | exact .v | exact .any | refine .elem ?_ | exact ar _ _ | exact c6 _ _ | exact cw _ _ | exact cy _ (by (try dsimp only); omega) | exact .box (by (try dsimp only); omega) | exact c5 | exact cg | exact ei (gj _ _) | refine c4 ?_ ?_ | exact .arr (by (try dsimp only); omega) | exact .own (by (try dsimp only); omega) | exact .map (by (try dsimp only); omega) | exact cc _ | refine bk ?_ ?_ | exact ar _ _))))
 rintro j hK
 dsimp only at hK ⊢
 refine yS fun _ K34 => ?_
 refine yR ?_
 refine aa rfl (cn rfl rfl rfl) ?_
 refine yN ?_
 dsimp only [St.put]
 refine K34 _ ?_
 refine yS fun _ K35 => ?_
 refine ak rfl (fun hc => ?_) (fun hc => ?_)
 ·replace hc := of_decide_eq_true hc
  obtain ⟨x, hx⟩ : ∃ x, p.pages[j]? = some x := cx (by omega)
  refine av ?_
  refine K35 _ ?_
  refine yS fun _ K36 => ?_
  refine az ?_
  refine yS fun _ K37 => ?_
  refine yR ?_
  refine aa rfl (bl rfl rfl rfl rfl (bn (by assumption)) (Enc.len _)) ?_
  refine yE rfl rfl rfl ?_
  try dsimp only [St.put]
  refine af rfl (eh rfl ?_)
  try dsimp only [St.put]
  refine af rfl (dt rfl rfl rfl zG rfl rfl (by rfl) ?_)
  refine yN ?_
  dsimp only [St.put]
  refine K37 _ ?_
  refine eo (i := 16) rfl zG zC ?_
  dsimp only
  refine cj 89 ?_
  refine zQ ?_
  refine ix (X := Bool) (fun d0 => d0 = lu p (fg p.pages j) x) (fun d0 => [(14, .v (.bool d0))]) (fun d0 G' => G') rfl ?_ (fun _ _ _ _ h => .inl h) ?_ ?_
  ·rintro d0 hI
   exact (by (try dsimp only); repeat' (first | exact trivial | refine ⟨?_, ?_⟩ | exact .v | exact .any | refine .elem ?_ | exact ar _ _ | exact c6 _ _ | exact cw _ _ | exact cy _ (by (try dsimp only); omega) | exact .box (by (try dsimp only); omega) | exact c5 | exact cg | exact ei (gj _ _) | refine c4 ?_ ?_ | exact .arr (by (try dsimp only); omega) | exact .own (by (try dsimp only); omega) | exact .map (by (try dsimp only); omega) | exact cc _ | refine bk ?_ ?_ | exact ar _ _))
  ·refine yR ?_
   refine yF rfl rfl rfl rfl ?_
   refine yL rfl rfl rfl ?_
   refine yM rfl rfl ?_
   refine aa rfl (gq rfl rfl rfl) ?_
   refine yM rfl rfl ?_
   refine ep (fun hs => ?_) (fun hs => ?_)
   ·have z1 : fg p.pages j < x.fr := of_decide_eq_true hs
    refine yF rfl rfl rfl rfl ?_
    refine yL rfl rfl rfl ?_
    refine yF rfl rfl rfl rfl ?_
    refine yL rfl rfl rfl ?_
    refine aa rfl (se rfl rfl rfl) ?_
    refine aa rfl (ck rfl rfl (by constructor)) ?_
    refine yM rfl rfl ?_
    refine ep (fun hs => ?_) (fun hs => ?_)
    ·have z2 : x.fr ≤ x.to := of_decide_eq_true hs
     refine yF rfl rfl rfl rfl ?_
     refine yL rfl rfl rfl ?_
     refine yM rfl rfl ?_
     refine aa rfl (cn rfl rfl rfl) ?_
     refine aa rfl (ck rfl rfl (by constructor)) ?_
     refine yA rfl rfl ?_
     refine yN ?_
     dsimp only [St.put]
     refine ⟨_, ?_, ⟨⟨rfl, rfl⟩, zF, zB, zN, zX⟩⟩
     unfold lu
     first
     | (simp [z1]; done)
     | (simp [z1, z2]; done)
     | (simp [z1]; omega)
    have z2 : ¬ x.fr ≤ x.to := of_decide_eq_false hs
    refine yK rfl ?_
    refine yK rfl ?_
    refine yK rfl ?_
    refine yK rfl ?_
    refine aa rfl (bz rfl rfl (by constructor)) ?_
    refine yA rfl rfl ?_
    refine yN ?_
    dsimp only [St.put]
    refine ⟨_, ?_, ⟨⟨rfl, rfl⟩, zF, zB, zN, zX⟩⟩
    unfold lu
    first
    | (simp [z1]; done)
    | (simp [z1, z2]; done)
    | (simp [z1]; omega)
   have z1 : ¬ fg p.pages j < x.fr := of_decide_eq_false hs
   refine yK rfl ?_
   refine yK rfl ?_
   refine yK rfl ?_
   refine yK rfl ?_
   refine yK rfl ?_
   refine aa rfl (bz rfl rfl (by constructor)) ?_
   refine yM rfl rfl ?_
   refine yK rfl ?_
   refine yK rfl ?_
   refine yK rfl ?_
   refine yK rfl ?_
   refine aa rfl (bz rfl rfl (by constructor)) ?_
   refine yA rfl rfl ?_
   refine yN ?_
   dsimp only [St.put]
   refine ⟨_, ?_, ⟨⟨rfl, rfl⟩, zF, zB, zN, zX⟩⟩
   unfold lu
   first
   | (simp [z1]; done)
   | (simp [z1, z2]; done)
   | (simp [z1]; omega)
  rintro d0 hst0
  dsimp only at hst0 ⊢
  subst hst0
  refine yS fun _ K39 => ?_
  refine yS fun _ K40 => ?_
  refine yR ?_
  try dsimp only [St.put]
  refine du rfl (tw (n := 6) (m := n) rfl rfl zG rfl) ?_
  refine yM rfl rfl ?_
  refine yN ?_
  dsimp only [St.put]
  refine K40 _ ?_
  refine az ?_
  refine cj 111 ?_
  refine zQ ?_
  refine db ((ai (ai (ai (ai G (nx + 1) (.box (j + j + j) [lst p.text, lst p.firsts, lst p.seconds, lst p.pages, .list (((p.pages.take j).map fun x => (dw p.text x : Int)).map cells) (.tip (nx + 1 + 1)), .list (((p.pages.take j).map (ca p.text)).map cells) (.tip (nx + 1 + 1 + 1)), .list (((p.pages.take j).map (bf p.text)).map cells) (.tip (nx + 1 + 1 + 1 + 1))])) (nx + 1 + 1) (.tip ((p.pages.take j).map fun x => (dw p.text x : Int)).length 3 1)) (nx + 1 + 1 + 1) (.tip ((p.pages.take j).map (ca p.text)).length 36 1)) (nx + 1 + 1 + 1 + 1) (.tip ((p.pages.take j).map (bf p.text)).length 36 1))) zX ?_
  dsimp only
  refine c7 (X := Nat) (fun k => k ≤ 2) (fun k => 2 - k) (fun k => [(14, .v (.bool (j7 p (fg p.pages j) x k))), (18, .any), (19, .any), (20, .any), (21, .any), (22, .any), (110, .v (.int .i64 (k : Int)))]) (fun k G' => G') 0 rfl ?_ ?_ (fun _ _ h => h) ?_ ?_ ?_
  ·exact Nat.zero_le _
  ·exact zF
  ·rintro k hI
   exact (by (try dsimp only); repeat' (first | exact trivial | refine ⟨?_, ?_⟩ | exact .v | exact .any | refine .elem ?_ | exact ar _ _ | exact c6 _ _ | exact cw _ _ | exact cy _ (by (try dsimp only); omega) | exact .box (by (try dsimp only); omega) | exact c5 | exact cg | exact ei (gj _ _) | refine c4 ?_ ?_ | exact .arr (by (try dsimp only); omega) | exact .own (by (try dsimp only); omega) | exact .map (by (try dsimp only); omega) | exact cc _ | refine bk ?_ ?_ | exact ar _ _))
  ·exact fun _ _ _ _ h => .inl h
  rintro k hS
  dsimp only at hS ⊢
  refine yS fun _ K41 => ?_
  refine yR ?_
  refine aa rfl (cn rfl rfl rfl) ?_
  refine yN ?_
  dsimp only [St.put]
  refine K41 _ ?_
  refine yS fun _ K42 => ?_
  refine ak rfl (fun hc => ?_) (fun hc => ?_)
  ·replace hc := of_decide_eq_true hc
   have hk2 : k < 2 := by omega
   have hslk := hsl (decide (k = 1))
   refine av ?_
   refine K42 _ ?_
   refine yS fun _ K43 => ?_
   refine az ?_
   refine yS fun _ K44 => ?_
   refine yR ?_
   refine aa rfl (un (k := k) (m := 2) (sz := 3) rfl rfl rfl rfl hk2 (tr hk2)) ?_
   try dsimp only [St.put]
   refine af rfl (eh rfl ?_)
   try dsimp only [St.put]
   refine af rfl (dt rfl rfl rfl zG rfl rfl (by rfl) ?_)
   refine yN ?_
   dsimp only [St.put]
   refine K44 _ ?_
   refine eo (i := 18) rfl zG zC ?_
   dsimp only
   refine cj 111 ?_
   refine zQ ?_
   refine ix (X := Unit) (fun _ => True) (fun _ => [(19, .v (.int .i64 (fp (decide (k = 1)) x))), (20, lst (bu (decide (k = 1)) x))]) (fun _ G' => G') rfl ?_ (fun _ _ _ _ h => .inl h) ?_ ?_
   ·rintro _ hI
    exact (by (try dsimp only); repeat' (first | exact trivial | refine ⟨?_, ?_⟩ | exact .v | exact .any | refine .elem ?_ | exact ar _ _ | exact c6 _ _ | exact cw _ _ | exact cy _ (by (try dsimp only); omega) | exact .box (by (try dsimp only); omega) | exact c5 | exact cg | exact ei (gj _ _) | refine c4 ?_ ?_ | exact .arr (by (try dsimp only); omega) | exact .own (by (try dsimp only); omega) | exact .map (by (try dsimp only); omega) | exact cc _ | refine bk ?_ ?_ | exact ar _ _))
   ·refine f4 [(0, none), (1, none), (2, none), (4, none), (5, none), (6, none), (3, none), (7, none), (8, none), (9, none)] (fun i => [7].contains i) (fun i => [3, 7].contains i) (fun i => [0, 4, 8, 9].contains i) [] (by kernel_rfl) (by kernel_rfl) ?_
    refine ae rfl rfl rfl rfl (cb rfl rfl rfl) ?_
    try dsimp only [St.put]
    refine aw rfl rfl rfl rfl (bv rfl rfl) ?_
    try dsimp only [St.put]
    refine aw rfl rfl rfl rfl (d9 rfl rfl (Enc.len _)) ?_
    refine ae rfl rfl rfl rfl (cb rfl rfl rfl) ?_
    try dsimp only [St.put]
    refine aw rfl rfl rfl rfl (bv rfl rfl) ?_
    try dsimp only [St.put]
    refine aw rfl rfl rfl rfl (d9 rfl rfl (Enc.len _)) ?_
    refine ij ?_
    try dsimp only [St.put]
    refine g8 rfl rfl rfl (ba rfl rfl rfl (wt (decide (k = 1)) x) ⟨zD, ?_⟩)
    try dsimp only [St.put]
    refine gt rfl rfl rfl rfl (ba rfl rfl rfl (wu (decide (k = 1)) x) ?_)
    refine di rfl rfl rfl rfl (gn rfl (by constructor)) ?_
    refine di rfl rfl rfl rfl (gn rfl (by constructor)) ?_
    refine ii ?_
    dsimp only [St.put]
    exact ⟨(), trivial, ⟨⟨rfl, rfl⟩, zF, zB, zN, zX⟩⟩
   rintro _ h31
   dsimp only at h31 ⊢
   refine cj 111 ?_
   refine zQ ?_
   refine ix (X := Bool) (fun d => d = (j7 p (fg p.pages j) x k && (inB (fp (decide (k = 1)) x) (-1) (((cz p (decide (k = 1))).length : Int) - 1) && (decide (0 ≤ fp (decide (k = 1)) x) || decide (bu (decide (k = 1)) x = []))))) (fun d => [(14, .v (.bool d))]) (fun d G' => G') rfl ?_ (fun _ _ _ _ h => .inl h) ?_ ?_
   ·rintro d hI
    exact (by (try dsimp only); repeat' (first | exact trivial | refine ⟨?_, ?_⟩ | exact .v | exact .any | refine .elem ?_ | exact ar _ _ | exact c6 _ _ | exact cw _ _ | exact cy _ (by (try dsimp only); omega) | exact .box (by (try dsimp only); omega) | exact c5 | exact cg | exact ei (gj _ _) | refine c4 ?_ ?_ | exact .arr (by (try dsimp only); omega) | exact .own (by (try dsimp only); omega) | exact .map (by (try dsimp only); omega) | exact cc _ | refine bk ?_ ?_ | exact ar _ _))
   ·refine yR ?_
    refine yM rfl rfl ?_
    refine yM rfl rfl ?_
    refine ep (fun hs => ?_) (fun hs => ?_)
    ·have s0 : j7 p (fg p.pages j) x k = true := hs
     refine yF rfl rfl rfl rfl ?_
     refine yL rfl rfl rfl ?_
     refine yE rfl rfl rfl ?_
     try dsimp only [St.put]
     refine af rfl (ba rfl rfl rfl (oh (decide (k = 1)) p) ?_)
     refine aa rfl (bg rfl rfl (List.length_map _)) ?_
     refine aa rfl (gm rfl rfl rfl (by omega)) ?_
     refine yM rfl rfl ?_
     try dsimp only [St.put]
     refine af rfl (ef rfl rfl rfl (by decide) (by decide) zR (by decide) ?_)
     try dsimp only [St.put]
     refine af rfl (ba rfl rfl rfl (jh _ _ [_]) ?_)
     refine aa rfl (ck rfl rfl (by constructor)) ?_
     refine yM rfl rfl ?_
     refine ep (fun hs => ?_) (fun hs => ?_)
     ·have s1 : inB (fp (decide (k = 1)) x) (-1) (((cz p (decide (k = 1))).length : Int) - 1) = true := by rw [er] at hs; exact hs
      refine yM rfl rfl ?_
      refine aa rfl (oz rfl rfl rfl) ?_
      refine yM rfl rfl ?_
      refine ep (fun hs => ?_) (fun hs => ?_)
      ·have s2 : 0 ≤ fp (decide (k = 1)) x := of_decide_eq_true hs
       refine yK rfl ?_
       refine yK rfl ?_
       refine yK rfl ?_
       refine aa rfl (ck rfl rfl (by constructor)) ?_
       refine aa rfl (ck rfl rfl (by constructor)) ?_
       refine yA rfl rfl ?_
       refine yN ?_
       dsimp only [St.put]
       refine ⟨_, ?_, ⟨⟨rfl, rfl⟩, zF, zB, zN, zX⟩⟩
       first
       | (rw [s0]; simp; done)
       | (rw [s0, s1]; simp; done)
       | (rw [s0, s1, decide_eq_true s2]; simp; done)
       | (rw [s0, s1, decide_eq_false s2, Bool.true_and, Bool.true_and, Bool.false_or, decide_eq_decide]; exact nil_len.symm)
      have s2 : ¬ 0 ≤ fp (decide (k = 1)) x := of_decide_eq_false hs
      refine yM rfl rfl ?_
      refine aa rfl (bg rfl rfl (List.length_map _)) ?_
      refine aa rfl (ir rfl rfl rfl) ?_
      refine aa rfl (bz rfl rfl (by constructor)) ?_
      refine aa rfl (ck rfl rfl (by constructor)) ?_
      refine yA rfl rfl ?_
      refine yN ?_
      dsimp only [St.put]
      refine ⟨_, ?_, ⟨⟨rfl, rfl⟩, zF, zB, zN, zX⟩⟩
      first
      | (rw [s0]; simp; done)
      | (rw [s0, s1]; simp; done)
      | (rw [s0, s1, decide_eq_true s2]; simp; done)
      | (rw [s0, s1, decide_eq_false s2, Bool.true_and, Bool.true_and, Bool.false_or, decide_eq_decide]; exact nil_len.symm)
     have s1 : inB (fp (decide (k = 1)) x) (-1) (((cz p (decide (k = 1))).length : Int) - 1) = false := by rw [er] at hs; exact hs
     refine yK rfl ?_
     refine yK rfl ?_
     refine yK rfl ?_
     refine yK rfl ?_
     refine yK rfl ?_
     refine yK rfl ?_
     refine yK rfl ?_
     refine aa rfl (bz rfl rfl (by constructor)) ?_
     refine yA rfl rfl ?_
     refine yN ?_
     dsimp only [St.put]
     refine ⟨_, ?_, ⟨⟨rfl, rfl⟩, zF, zB, zN, zX⟩⟩
     first
     | (rw [s0]; simp; done)
     | (rw [s0, s1]; simp; done)
     | (rw [s0, s1, decide_eq_true s2]; simp; done)
     | (rw [s0, s1, decide_eq_false s2, Bool.true_and, Bool.true_and, Bool.false_or, decide_eq_decide]; exact nil_len.symm)
    have s0 : j7 p (fg p.pages j) x k = false := hs
    refine yK rfl ?_
    refine yK rfl ?_
    refine yK rfl ?_
    refine yK rfl ?_
    refine yK rfl ?_
    refine yK rfl ?_
    refine yK rfl ?_
    refine yK rfl ?_
    refine yK rfl ?_
    refine aa rfl (bz rfl rfl (by constructor)) ?_
    refine yM rfl rfl ?_
    refine yK rfl ?_
    refine yK rfl ?_
    refine yK rfl ?_
    refine yK rfl ?_
    refine yK rfl ?_
    refine yK rfl ?_
    refine yK rfl ?_
    refine aa rfl (bz rfl rfl (by constructor)) ?_
    refine yA rfl rfl ?_
    refine yN ?_
    dsimp only [St.put]
    refine ⟨_, ?_, ⟨⟨rfl, rfl⟩, zF, zB, zN, zX⟩⟩
    first
    | (rw [s0]; simp; done)
    | (rw [s0, s1]; simp; done)
    | (rw [s0, s1, decide_eq_true s2]; simp; done)
    | (rw [s0, s1, decide_eq_false s2, Bool.true_and, Bool.true_and, Bool.false_or, decide_eq_decide]; exact nil_len.symm)
   rintro d hd
   dsimp only at hd ⊢
   refine yS fun _ K47 => ?_
   refine jn 20 (fun hfit => ?_)
   have hfll := (fit_lst.1 hfit).1
   rw [show (C.v (.bool d)) = .v (.bool (d && ce p.text x (bu (decide (k = 1)) x) 0)) by simp [ce]]
   refine yR ?_
   refine yM rfl rfl ?_
   refine aa rfl (bg rfl rfl (List.length_map _)) ?_
   refine yM rfl rfl ?_
   refine yN ?_
   dsimp only [St.put]
   refine K47 _ ?_
   refine az ?_
   refine cj 145 ?_
   refine zQ ?_
   refine db ((ai (ai (ai (ai G (nx + 1) (.box (j + j + j) [lst p.text, lst p.firsts, lst p.seconds, lst p.pages, .list (((p.pages.take j).map fun x => (dw p.text x : Int)).map cells) (.tip (nx + 1 + 1)), .list (((p.pages.take j).map (ca p.text)).map cells) (.tip (nx + 1 + 1 + 1)), .list (((p.pages.take j).map (bf p.text)).map cells) (.tip (nx + 1 + 1 + 1 + 1))])) (nx + 1 + 1) (.tip ((p.pages.take j).map fun x => (dw p.text x : Int)).length 3 1)) (nx + 1 + 1 + 1) (.tip ((p.pages.take j).map (ca p.text)).length 36 1)) (nx + 1 + 1 + 1 + 1) (.tip ((p.pages.take j).map (bf p.text)).length 36 1))) zX ?_
   dsimp only
   refine c7 (X := Nat) (fun i => i ≤ (bu (decide (k = 1)) x).length) (fun i => (bu (decide (k = 1)) x).length - i) (fun i => [(14, .v (.bool (d && ce p.text x (bu (decide (k = 1)) x) i))), (21, .any), (22, .any), (144, .v (.int .i64 (i : Int)))]) (fun i G' => G') 0 rfl ?_ ?_ (fun _ _ h => h) ?_ ?_ ?_
   ·exact Nat.zero_le _
   ·exact zF
   ·rintro i hI
    exact (by (try dsimp only); repeat' (first | exact trivial | refine ⟨?_, ?_⟩ | exact .v | exact .any | refine .elem ?_ | exact ar _ _ | exact c6 _ _ | exact cw _ _ | exact cy _ (by (try dsimp only); omega) | exact .box (by (try dsimp only); omega) | exact c5 | exact cg | exact ei (gj _ _) | refine c4 ?_ ?_ | exact .arr (by (try dsimp only); omega) | exact .own (by (try dsimp only); omega) | exact .map (by (try dsimp only); omega) | exact cc _ | refine bk ?_ ?_ | exact ar _ _))
   ·exact fun _ _ _ _ h => .inl h
   rintro i hT
   dsimp only at hT ⊢
   refine yS fun _ K48 => ?_
   refine yR ?_
   refine aa rfl (cn rfl rfl rfl) ?_
   refine yN ?_
   dsimp only [St.put]
   refine K48 _ ?_
   refine yS fun _ K49 => ?_
   refine ak rfl (fun hc => ?_) (fun hc => ?_)
   ·replace hc := of_decide_eq_true hc
    obtain ⟨q, hq⟩ : ∃ q, (bu (decide (k = 1)) x)[i]? = some q := cx (by omega)
    refine av ?_
    refine K49 _ ?_
    refine yS fun _ K50 => ?_
    refine az ?_
    refine yS fun _ K51 => ?_
    refine yR ?_
    refine yM rfl rfl ?_
    refine aa rfl (bl rfl rfl rfl rfl (bn (by assumption)) (Enc.len _)) ?_
    refine yE rfl rfl rfl ?_
    try dsimp only [St.put]
    refine af rfl (eh rfl ?_)
    refine yA rfl rfl ?_
    try dsimp only [St.put]
    refine af rfl (dt rfl rfl rfl zG rfl rfl (by rfl) ?_)
    refine yN ?_
    dsimp only [St.put]
    refine K51 _ ?_
    refine eo (i := 22) rfl zG zC ?_
    dsimp only
    refine o8 [(0, none), (1, none), (2, none), (3, none), (4, none)] (fun _ => false) (fun i => [0, 1, 2].contains i) 33 (rl [5, 33]) (by kernel_rfl) (by kernel_rfl) ?_
    refine xM rfl rfl rfl rfl rfl ?_
    refine xM rfl rfl rfl rfl rfl ?_
    refine il (fun hs => ?_) (fun hs => ?_)
    ·have w0 : (d && ce p.text x (bu (decide (k = 1)) x) i) = true := hs
     refine ae rfl rfl rfl rfl (cb rfl rfl rfl) ?_
     try dsimp only [St.put]
     refine aw rfl rfl rfl rfl (c := eu p.text) (im (cs := cells p) rfl rfl (show 1 ≤ 4 by decide)) ?_
     try dsimp only [St.put]
     refine aw rfl rfl rfl rfl (d9 rfl rfl (Enc.len _)) ?_
     refine bq ?_
     refine dc [5] (by kernel_rfl) (by simp) ?_
     refine dg ?_ ?_
     ·try dsimp only [St.put]
      refine gu rfl rfl rfl (ba rfl rfl rfl (ua0 p.text q ht) ?_)
      refine d8 [(6, none), (7, none), (8, none), (9, none), (10, none), (11, none), (12, none), (13, none), (14, none), (15, none), (16, none), (17, none), (18, none), (19, none)] (fun i => [6, 7, 8, 10, 12, 13, 15, 17, 19].contains i) 18 (rl [20, 18]) (by kernel_rfl) ?_
      refine ae rfl rfl rfl rfl (ck rfl rfl (by constructor)) ?_
      refine xM rfl rfl rfl rfl rfl ?_
      refine il (fun hs => ?_) (fun hs => ?_)
      ·have w1 : ey p.text q = true := hs
       obtain ⟨kq, nq, wq, cq, lq, hqe, hq1, hq2, hq3⟩ := w5 w1
       have hkl := (List.getElem?_eq_some_iff.1 hq1).1
       have hnl := (List.getElem?_eq_some_iff.1 hq2).1
       have hcl := (hl3 cq (ez hq1)).2.1
       have hst := rr (t := p.text) (k := p.text.length) (i := kq) hkl
       have hsb := og ht kq (by omega)
       have hqc : q.ch = (kq : Int) := by rw [hqe]
       have hql : q.ln = (nq : Int) := by rw [hqe]
       refine ae rfl rfl rfl rfl (cb rfl rfl rfl) ?_
       try dsimp only [St.put]
       refine aw rfl rfl rfl rfl (bv rfl rfl) ?_
       refine ae rfl rfl rfl rfl (cb rfl rfl rfl) ?_
       try dsimp only [St.put]
       refine aw rfl rfl rfl rfl (bv rfl rfl) ?_
       refine xM rfl rfl rfl rfl rfl ?_
       refine ae rfl rfl rfl rfl (cb rfl rfl rfl) ?_
       try dsimp only [St.put]
       refine aw rfl rfl rfl rfl (bv rfl rfl) ?_
       try dsimp only [St.put]
       refine ae rfl rfl rfl rfl (bl rfl rfl rfl (by omega) (bn (by assumption)) (Enc.len _)) ?_
       try dsimp only [St.put]
       refine aw rfl rfl rfl rfl (bv rfl rfl) ?_
       refine ae rfl rfl rfl rfl (cb rfl rfl rfl) ?_
       try dsimp only [St.put]
       refine aw rfl rfl rfl rfl (bv rfl rfl) ?_
       refine ae rfl rfl rfl rfl (br rfl rfl rfl (by omega)) ?_
       refine bq ?_
       refine dc [20] (by kernel_rfl) (by simp) ?_
       refine dg ?_ ?_
       ·try dsimp only [St.put]
        refine gu rfl rfl rfl (ef rfl rfl rfl (by decide) (by decide) zR (by decide) ?_)
        refine dc [21] (by kernel_rfl) (by simp) ?_
        refine dg ?_ ?_
        ·try dsimp only [St.put]
         refine gu rfl rfl rfl (ba rfl rfl rfl (jh _ _ [_]) ?_)
         refine d8 [(22, none), (23, none), (24, none), (25, none), (26, none), (27, none), (28, none), (29, none), (30, none), (31, none), (32, none)] (fun i => [22, 23, 24, 25, 26, 27, 28, 29, 30].contains i) 5 (rl [33, 5]) (by kernel_rfl) ?_
         refine ae rfl rfl rfl rfl (ck rfl rfl (by constructor)) ?_
         refine xM rfl rfl rfl rfl rfl ?_
         refine il (fun hs => ?_) (fun hs => ?_)
         ·have w2 : el p.text x q = true := by
           rw [er] at hs
           unfold el nk
           rw [hqc, Int.toNat_natCast, Int.add_comm]; exact hs
          refine xM rfl rfl rfl rfl rfl ?_
          refine ae rfl rfl rfl rfl (ir rfl rfl rfl) ?_
          refine xM rfl rfl rfl rfl rfl ?_
          refine il (fun hs => ?_) (fun hs => ?_)
          ·have w3 : i = 0 := by have := of_decide_eq_true hs; omega
           refine ah rfl rfl rfl ?_
           refine ah rfl rfl rfl ?_
           refine ah rfl rfl rfl ?_
           refine ah rfl rfl rfl ?_
           refine ah rfl rfl rfl ?_
           refine ah rfl rfl rfl ?_
           refine bq ?_
           refine dc [33] (by kernel_rfl) (by simp) ?_
           refine dg ?_ ?_
           ·refine fa rfl rfl rfl ?_
            refine d8 [(34, none), (35, none), (36, none), (37, none)] (fun i => [34, 35, 36, 37].contains i) 0 (rl [38]) (by kernel_rfl) ?_
            refine ah rfl rfl rfl ?_
            refine ae rfl rfl rfl rfl (ck rfl rfl (by constructor)) ?_
            refine ae rfl rfl rfl rfl (ck rfl rfl (by constructor)) ?_
            refine ae rfl rfl rfl rfl (gn rfl (by constructor)) ?_
            refine bq ?_
            dsimp only [St.put]
            refine ge (by kernel_rfl) ?_
            refine K50 _ ?_
            refine yR ?_
            refine aa rfl (br rfl rfl rfl (by omega)) ?_
            refine yM rfl rfl ?_
            refine yN ?_
            dsimp only [St.put]
            refine ⟨i + 1, by omega, by omega, ?_⟩
            try dsimp only
            first
            | (rw [show (d && ce p.text x (bu (decide (k = 1)) x) (i + 1)) = false by rw [d7, ← Bool.and_assoc, show (d && ce p.text x (bu (decide (k = 1)) x) i) = false from w0, Bool.false_and]]
               exact ⟨⟨rfl, rfl⟩, zF, zB, zN, zX⟩)
            | (rw [show (d && ce p.text x (bu (decide (k = 1)) x) (i + 1)) = false by rw [d7, e8 hq, show ey p.text q = false from w1]; simp]
               exact ⟨⟨rfl, rfl⟩, zF, zB, zN, zX⟩)
            | (rw [show (d && ce p.text x (bu (decide (k = 1)) x) (i + 1)) = false by rw [d7, e8 hq, show el p.text x q = false from w2]; simp]
               exact ⟨⟨rfl, rfl⟩, zF, zB, zN, zX⟩)
            | (rw [show (d && ce p.text x (bu (decide (k = 1)) x) (i + 1)) = true by rw [d7, ← Bool.and_assoc, show (d && ce p.text x (bu (decide (k = 1)) x) i) = true from w0, e8 hq, w1, w2, decide_eq_true (show i = 0 from w3)]; rfl]
               exact ⟨⟨rfl, rfl⟩, zF, zB, zN, zX⟩)
            | (rw [show (d && ce p.text x (bu (decide (k = 1)) x) (i + 1)) = decide (ig a q < 0) by rw [d7, ← Bool.and_assoc, show (d && ce p.text x (bu (decide (k = 1)) x) i) = true from w0, e8 hq, w1, w2, decide_eq_false (show ¬ i = 0 from w3), ha]; rfl]
               exact ⟨⟨rfl, rfl⟩, zF, zB, zN, zX⟩)
           exact dd
          have w3 : ¬ i = 0 := by have := of_decide_eq_false hs; omega
          obtain ⟨a, ha⟩ : ∃ a, (bu (decide (k = 1)) x)[i - 1]? = some a := cx (by omega)
          refine xM rfl rfl rfl rfl rfl ?_
          refine xM rfl rfl rfl rfl rfl ?_
          refine ae rfl rfl rfl rfl (gm rfl rfl rfl (by omega)) ?_
          try dsimp only [St.put]
          refine ae rfl rfl rfl rfl (bl (k := i - 1) rfl rfl rfl (by omega) (bn ha) (Enc.len _)) ?_
          try dsimp only [St.put]
          refine aw rfl rfl rfl rfl (d9 rfl rfl (Enc.len _)) ?_
          try dsimp only [St.put]
          refine aw rfl rfl rfl rfl (d9 rfl rfl (Enc.len _)) ?_
          refine bq ?_
          refine dc [33] (by kernel_rfl) (by simp) ?_
          refine dg ?_ ?_
          ·try dsimp only [St.put]
           refine gu rfl rfl rfl (ba rfl rfl rfl (ov a q) ?_)
           refine d8 [(34, none), (35, none), (36, none), (37, none)] (fun i => [34, 35, 36, 37].contains i) 0 (rl [38]) (by kernel_rfl) ?_
           refine ae rfl rfl rfl rfl (cn rfl rfl rfl) ?_
           refine ae rfl rfl rfl rfl (bz rfl rfl (by constructor)) ?_
           refine ae rfl rfl rfl rfl (ck rfl rfl (by constructor)) ?_
           refine ae rfl rfl rfl rfl (gn rfl (by constructor)) ?_
           refine bq ?_
           dsimp only [St.put]
           refine ge (by kernel_rfl) ?_
           refine K50 _ ?_
           refine yR ?_
           refine aa rfl (br rfl rfl rfl (by omega)) ?_
           refine yM rfl rfl ?_
           refine yN ?_
           dsimp only [St.put]
           refine ⟨i + 1, by omega, by omega, ?_⟩
           try dsimp only
           first
           | (rw [show (d && ce p.text x (bu (decide (k = 1)) x) (i + 1)) = false by rw [d7, ← Bool.and_assoc, show (d && ce p.text x (bu (decide (k = 1)) x) i) = false from w0, Bool.false_and]]
              exact ⟨⟨rfl, rfl⟩, zF, zB, zN, zX⟩)
           | (rw [show (d && ce p.text x (bu (decide (k = 1)) x) (i + 1)) = false by rw [d7, e8 hq, show ey p.text q = false from w1]; simp]
              exact ⟨⟨rfl, rfl⟩, zF, zB, zN, zX⟩)
           | (rw [show (d && ce p.text x (bu (decide (k = 1)) x) (i + 1)) = false by rw [d7, e8 hq, show el p.text x q = false from w2]; simp]
              exact ⟨⟨rfl, rfl⟩, zF, zB, zN, zX⟩)
           | (rw [show (d && ce p.text x (bu (decide (k = 1)) x) (i + 1)) = true by rw [d7, ← Bool.and_assoc, show (d && ce p.text x (bu (decide (k = 1)) x) i) = true from w0, e8 hq, w1, w2, decide_eq_true (show i = 0 from w3)]; rfl]
              exact ⟨⟨rfl, rfl⟩, zF, zB, zN, zX⟩)
           | (rw [show (d && ce p.text x (bu (decide (k = 1)) x) (i + 1)) = decide (ig a q < 0) by rw [d7, ← Bool.and_assoc, show (d && ce p.text x (bu (decide (k = 1)) x) i) = true from w0, e8 hq, w1, w2, decide_eq_false (show ¬ i = 0 from w3), ha]; rfl]
              exact ⟨⟨rfl, rfl⟩, zF, zB, zN, zX⟩)
          exact dd
         have w2 : el p.text x q = false := by
          rw [er] at hs
          unfold el nk
          rw [hqc, Int.toNat_natCast, Int.add_comm]; exact hs
         refine ah rfl rfl rfl ?_
         refine ah rfl rfl rfl ?_
         refine ah rfl rfl rfl ?_
         refine ah rfl rfl rfl ?_
         refine ah rfl rfl rfl ?_
         refine ah rfl rfl rfl ?_
         refine ah rfl rfl rfl ?_
         refine ah rfl rfl rfl ?_
         refine ah rfl rfl rfl ?_
         refine bq ?_
         refine dc [33] (by kernel_rfl) (by simp) ?_
         refine dg ?_ ?_
         ·refine fa rfl rfl rfl ?_
          refine d8 [(34, none), (35, none), (36, none), (37, none)] (fun i => [34, 35, 36, 37].contains i) 0 (rl [38]) (by kernel_rfl) ?_
          refine ah rfl rfl rfl ?_
          refine ah rfl rfl rfl ?_
          refine ae rfl rfl rfl rfl (bz rfl rfl (by constructor)) ?_
          refine ae rfl rfl rfl rfl (gn rfl (by constructor)) ?_
          refine bq ?_
          dsimp only [St.put]
          refine ge (by kernel_rfl) ?_
          refine K50 _ ?_
          refine yR ?_
          refine aa rfl (br rfl rfl rfl (by omega)) ?_
          refine yM rfl rfl ?_
          refine yN ?_
          dsimp only [St.put]
          refine ⟨i + 1, by omega, by omega, ?_⟩
          try dsimp only
          first
          | (rw [show (d && ce p.text x (bu (decide (k = 1)) x) (i + 1)) = false by rw [d7, ← Bool.and_assoc, show (d && ce p.text x (bu (decide (k = 1)) x) i) = false from w0, Bool.false_and]]
             exact ⟨⟨rfl, rfl⟩, zF, zB, zN, zX⟩)
          | (rw [show (d && ce p.text x (bu (decide (k = 1)) x) (i + 1)) = false by rw [d7, e8 hq, show ey p.text q = false from w1]; simp]
             exact ⟨⟨rfl, rfl⟩, zF, zB, zN, zX⟩)
          | (rw [show (d && ce p.text x (bu (decide (k = 1)) x) (i + 1)) = false by rw [d7, e8 hq, show el p.text x q = false from w2]; simp]
             exact ⟨⟨rfl, rfl⟩, zF, zB, zN, zX⟩)
          | (rw [show (d && ce p.text x (bu (decide (k = 1)) x) (i + 1)) = true by rw [d7, ← Bool.and_assoc, show (d && ce p.text x (bu (decide (k = 1)) x) i) = true from w0, e8 hq, w1, w2, decide_eq_true (show i = 0 from w3)]; rfl]
             exact ⟨⟨rfl, rfl⟩, zF, zB, zN, zX⟩)
          | (rw [show (d && ce p.text x (bu (decide (k = 1)) x) (i + 1)) = decide (ig a q < 0) by rw [d7, ← Bool.and_assoc, show (d && ce p.text x (bu (decide (k = 1)) x) i) = true from w0, e8 hq, w1, w2, decide_eq_false (show ¬ i = 0 from w3), ha]; rfl]
             exact ⟨⟨rfl, rfl⟩, zF, zB, zN, zX⟩)
         exact dd
        exact dd
       exact dd
      have w1 : ey p.text q = false := hs
      refine ah rfl rfl rfl ?_
      refine ah rfl rfl rfl ?_
      refine ah rfl rfl rfl ?_
      refine ah rfl rfl rfl ?_
      refine ah rfl rfl rfl ?_
      refine ah rfl rfl rfl ?_
      refine ah rfl rfl rfl ?_
      refine ah rfl rfl rfl ?_
      refine ah rfl rfl rfl ?_
      refine ah rfl rfl rfl ?_
      refine ah rfl rfl rfl ?_
      refine ah rfl rfl rfl ?_
      refine bq ?_
      refine dc [20] (by kernel_rfl) (by simp) ?_
      refine dg ?_ ?_
      ·refine fa rfl rfl rfl ?_
       refine dc [21] (by kernel_rfl) (by simp) ?_
       refine dg ?_ ?_
       ·refine fa rfl rfl rfl ?_
        refine d8 [(22, none), (23, none), (24, none), (25, none), (26, none), (27, none), (28, none), (29, none), (30, none), (31, none), (32, none)] (fun i => [22, 23, 24, 25, 26, 27, 28, 29, 30].contains i) 5 (rl [33, 5]) (by kernel_rfl) ?_
        refine ae rfl rfl rfl rfl (bz rfl rfl (by constructor)) ?_
        refine xM rfl rfl rfl rfl rfl ?_
        refine ah rfl rfl rfl ?_
        refine ah rfl rfl rfl ?_
        refine ah rfl rfl rfl ?_
        refine ah rfl rfl rfl ?_
        refine ah rfl rfl rfl ?_
        refine ah rfl rfl rfl ?_
        refine ah rfl rfl rfl ?_
        refine ah rfl rfl rfl ?_
        refine ah rfl rfl rfl ?_
        refine bq ?_
        refine dc [33] (by kernel_rfl) (by simp) ?_
        refine dg ?_ ?_
        ·refine fa rfl rfl rfl ?_
         refine d8 [(34, none), (35, none), (36, none), (37, none)] (fun i => [34, 35, 36, 37].contains i) 0 (rl [38]) (by kernel_rfl) ?_
         refine ah rfl rfl rfl ?_
         refine ah rfl rfl rfl ?_
         refine ae rfl rfl rfl rfl (bz rfl rfl (by constructor)) ?_
         refine ae rfl rfl rfl rfl (gn rfl (by constructor)) ?_
         refine bq ?_
         dsimp only [St.put]
         refine ge (by kernel_rfl) ?_
         refine K50 _ ?_
         refine yR ?_
         refine aa rfl (br rfl rfl rfl (by omega)) ?_
         refine yM rfl rfl ?_
         refine yN ?_
         dsimp only [St.put]
         refine ⟨i + 1, by omega, by omega, ?_⟩
         try dsimp only
         first
         | (rw [show (d && ce p.text x (bu (decide (k = 1)) x) (i + 1)) = false by rw [d7, ← Bool.and_assoc, show (d && ce p.text x (bu (decide (k = 1)) x) i) = false from w0, Bool.false_and]]
            exact ⟨⟨rfl, rfl⟩, zF, zB, zN, zX⟩)
         | (rw [show (d && ce p.text x (bu (decide (k = 1)) x) (i + 1)) = false by rw [d7, e8 hq, show ey p.text q = false from w1]; simp]
            exact ⟨⟨rfl, rfl⟩, zF, zB, zN, zX⟩)
         | (rw [show (d && ce p.text x (bu (decide (k = 1)) x) (i + 1)) = false by rw [d7, e8 hq, show el p.text x q = false from w2]; simp]
            exact ⟨⟨rfl, rfl⟩, zF, zB, zN, zX⟩)
         | (rw [show (d && ce p.text x (bu (decide (k = 1)) x) (i + 1)) = true by rw [d7, ← Bool.and_assoc, show (d && ce p.text x (bu (decide (k = 1)) x) i) = true from w0, e8 hq, w1, w2, decide_eq_true (show i = 0 from w3)]; rfl]
            exact ⟨⟨rfl, rfl⟩, zF, zB, zN, zX⟩)
         | (rw [show (d && ce p.text x (bu (decide (k = 1)) x) (i + 1)) = decide (ig a q < 0) by rw [d7, ← Bool.and_assoc, show (d && ce p.text x (bu (decide (k = 1)) x) i) = true from w0, e8 hq, w1, w2, decide_eq_false (show ¬ i = 0 from w3), ha]; rfl]
            exact ⟨⟨rfl, rfl⟩, zF, zB, zN, zX⟩)
        exact dd
       exact dd
      exact dd
     exact dd
    have w0 : (d && ce p.text x (bu (decide (k = 1)) x) i) = false := hs
    refine ah rfl rfl rfl ?_
    refine ah rfl rfl rfl ?_
    refine ah rfl rfl rfl ?_
    refine bq ?_
    refine dc [5] (by kernel_rfl) (by simp) ?_
    refine dg ?_ ?_
    ·refine fa rfl rfl rfl ?_
     refine d8 [(6, none), (7, none), (8, none), (9, none), (10, none), (11, none), (12, none), (13, none), (14, none), (15, none), (16, none), (17, none), (18, none), (19, none)] (fun i => [6, 7, 8, 10, 12, 13, 15, 17, 19].contains i) 18 (rl [20, 18]) (by kernel_rfl) ?_
     refine ae rfl rfl rfl rfl (bz rfl rfl (by constructor)) ?_
     refine xM rfl rfl rfl rfl rfl ?_
     refine ah rfl rfl rfl ?_
     refine ah rfl rfl rfl ?_
     refine ah rfl rfl rfl ?_
     refine ah rfl rfl rfl ?_
     refine ah rfl rfl rfl ?_
     refine ah rfl rfl rfl ?_
     refine ah rfl rfl rfl ?_
     refine ah rfl rfl rfl ?_
     refine ah rfl rfl rfl ?_
     refine ah rfl rfl rfl ?_
     refine ah rfl rfl rfl ?_
     refine ah rfl rfl rfl ?_
     refine bq ?_
     refine dc [20] (by kernel_rfl) (by simp) ?_
     refine dg ?_ ?_
     ·refine fa rfl rfl rfl ?_
      refine dc [21] (by kernel_rfl) (by simp) ?_
      refine dg ?_ ?_
      ·refine fa rfl rfl rfl ?_
       refine d8 [(22, none), (23, none), (24, none), (25, none), (26, none), (27, none), (28, none), (29, none), (30, none), (31, none), (32, none)] (fun i => [22, 23, 24, 25, 26, 27, 28, 29, 30].contains i) 5 (rl [33, 5]) (by kernel_rfl) ?_
       refine ae rfl rfl rfl rfl (bz rfl rfl (by constructor)) ?_
       refine xM rfl rfl rfl rfl rfl ?_
       refine ah rfl rfl rfl ?_
       refine ah rfl rfl rfl ?_
       refine ah rfl rfl rfl ?_
       refine ah rfl rfl rfl ?_
       refine ah rfl rfl rfl ?_
       refine ah rfl rfl rfl ?_
       refine ah rfl rfl rfl ?_
       refine ah rfl rfl rfl ?_
       refine ah rfl rfl rfl ?_
       refine bq ?_
       refine dc [33] (by kernel_rfl) (by simp) ?_
       refine dg ?_ ?_
       ·refine fa rfl rfl rfl ?_
        refine d8 [(34, none), (35, none), (36, none), (37, none)] (fun i => [34, 35, 36, 37].contains i) 0 (rl [38]) (by kernel_rfl) ?_
        refine ah rfl rfl rfl ?_
        refine ah rfl rfl rfl ?_
        refine ae rfl rfl rfl rfl (bz rfl rfl (by constructor)) ?_
        refine ae rfl rfl rfl rfl (gn rfl (by constructor)) ?_
        refine bq ?_
        dsimp only [St.put]
        refine ge (by kernel_rfl) ?_
        refine K50 _ ?_
        refine yR ?_
        refine aa rfl (br rfl rfl rfl (by omega)) ?_
        refine yM rfl rfl ?_
        refine yN ?_
        dsimp only [St.put]
        refine ⟨i + 1, by omega, by omega, ?_⟩
        try dsimp only
        first
        | (rw [show (d && ce p.text x (bu (decide (k = 1)) x) (i + 1)) = false by rw [d7, ← Bool.and_assoc, show (d && ce p.text x (bu (decide (k = 1)) x) i) = false from w0, Bool.false_and]]
           exact ⟨⟨rfl, rfl⟩, zF, zB, zN, zX⟩)
        | (rw [show (d && ce p.text x (bu (decide (k = 1)) x) (i + 1)) = false by rw [d7, e8 hq, show ey p.text q = false from w1]; simp]
           exact ⟨⟨rfl, rfl⟩, zF, zB, zN, zX⟩)
        | (rw [show (d && ce p.text x (bu (decide (k = 1)) x) (i + 1)) = false by rw [d7, e8 hq, show el p.text x q = false from w2]; simp]
           exact ⟨⟨rfl, rfl⟩, zF, zB, zN, zX⟩)
        | (rw [show (d && ce p.text x (bu (decide (k = 1)) x) (i + 1)) = true by rw [d7, ← Bool.and_assoc, show (d && ce p.text x (bu (decide (k = 1)) x) i) = true from w0, e8 hq, w1, w2, decide_eq_true (show i = 0 from w3)]; rfl]
           exact ⟨⟨rfl, rfl⟩, zF, zB, zN, zX⟩)
        | (rw [show (d && ce p.text x (bu (decide (k = 1)) x) (i + 1)) = decide (ig a q < 0) by rw [d7, ← Bool.and_assoc, show (d && ce p.text x (bu (decide (k = 1)) x) i) = true from w0, e8 hq, w1, w2, decide_eq_false (show ¬ i = 0 from w3), ha]; rfl]
           exact ⟨⟨rfl, rfl⟩, zF, zB, zN, zX⟩)
       exact dd
      exact dd
     exact dd
    exact dd
   replace hc := of_decide_eq_false hc
   obtain rfl : i = (bu (decide (k = 1)) x).length := by omega
   refine cr ?_
   refine K43 _ ?_
   refine yR ?_
   refine aa rfl (br rfl rfl rfl (by omega)) ?_
   refine yM rfl rfl ?_
   refine yN ?_
   dsimp only [St.put]
   rw [show (d && ce p.text x (bu (decide (k = 1)) x) (bu (decide (k = 1)) x).length) = j7 p (fg p.pages j) x (k + 1) by rw [hd]; simp only [j7, p7, gr, Bool.and_assoc]]
   exact ⟨k + 1, by omega, by omega, ⟨⟨rfl, rfl⟩, zF, zB, zN, zX⟩⟩
  replace hc := of_decide_eq_false hc
  obtain rfl : k = 2 := by omega
  rw [zo]
  refine cr ?_
  refine K39 _ ?_
  refine yS fun _ K52 => ?_
  refine yS fun _ K53 => ?_
  refine yR ?_
  refine yM rfl rfl ?_
  refine aa rfl (dv rfl rfl) ?_
  refine yN ?_
  dsimp only [St.put]
  refine K53 _ ?_
  refine ak rfl (fun hc => ?_) (fun hc => ?_)
  ·have hpg : ka p (fg p.pages j) x = false := by simpa using hc
   have hE : em p = 90 := vm ht (ry hx hpg)
   rw [hpg]
   refine cr ?_
   refine K32 _ ?_
   refine yS fun _ K54 => ?_
   refine yS fun _ K55 => ?_
   refine yR ?_
   refine yM rfl rfl ?_
   refine aa rfl (dv rfl rfl) ?_
   refine yN ?_
   dsimp only [St.put]
   refine K55 _ ?_
   refine ak rfl (fun _ => ?_) (fun h => by cases h)
   refine yS fun _ K56 => ?_
   refine yR ?_
   refine yA rfl rfl ?_
   refine yA rfl rfl ?_
   refine yN ?_
   dsimp only [St.put]
   refine K56 _ ?_
   refine ax ?_
   refine gx rfl (by constructor) (by constructor) zN zS ?_ ?_
   ·rw [r9 (by rw [hE]; decide)]
   rw [hE]
  have hpg : ka p (fg p.pages j) x = true := by simpa using hc
  have hpo := pageB_true.1 hpg
  rw [hpg]
  refine av ?_
  refine K52 _ ?_
  refine yS fun _ K57 => ?_
  refine yR ?_
  refine yF rfl rfl rfl rfl ?_
  refine yL rfl rfl rfl ?_
  refine yA rfl rfl ?_
  refine yN ?_
  dsimp only [St.put]
  refine K57 _ ?_
  refine yR ?_
  refine yM rfl rfl ?_
  refine yE rfl rfl rfl ?_
  refine yM rfl rfl ?_
  try dsimp only [St.put]
  refine af rfl (sv rfl rfl rfl (ujb p (fg p.pages j) x ((p.pages.take j).map fun x => (dw p.text x : Int)) ((p.pages.take j).map (ca p.text)) ((p.pages.take j).map (bf p.text)) (nx + 1) (nx + 1 + 1) (nx + 1 + 1 + 1) (nx + 1 + 1 + 1 + 1) (j + j + j) ht hpo (by rw [List.length_map, List.length_take]; omega) (by rw [List.length_map, List.length_take]; omega) (by rw [List.length_map, List.length_take]; omega) _ _ (by dsimp only [St.put]; omega) (by dsimp only [St.put]; omega) (by dsimp only [St.put]; omega) (by dsimp only [St.put]; omega) (by omega) (by omega) (by omega) (by omega) (by omega) (by omega) zG zG zG zG) ?_)
  refine yN ?_
  dsimp only [St.put]
  refine K36 _ ?_
  refine yR ?_
  refine aa rfl (br rfl rfl rfl (by omega)) ?_
  refine yM rfl rfl ?_
  refine yN ?_
  dsimp only [St.put]
  rw [show j + j + j + 1 + 1 + 1 = (j + 1) + (j + 1) + (j + 1) by omega, ← lf (f := fun x => (dw p.text x : Int)) hx, ← lf (f := ca p.text) hx, ← lf (f := bf p.text) hx, ← qm hx]
  exact ⟨j + 1, by omega, ⟨by omega, by rw [qa, hK.2, pg hx, hpg]; rfl⟩, ⟨⟨rfl, rfl⟩, zF, zB, zN, zX⟩⟩
 replace hc := of_decide_eq_false hc
 obtain rfl : j = p.pages.length := by omega
 rw [List.take_length]
 have hE : em p = 0 := uim ht (by unfold fw; rw [hRB, decide_eq_true hnp, hK.2]; rfl)
 refine cr ?_
 refine K32 _ ?_
 refine yS fun _ K58 => ?_
 refine yS fun _ K59 => ?_
 refine yR ?_
 refine yM rfl rfl ?_
 refine aa rfl (dv rfl rfl) ?_
 refine yN ?_
 dsimp only [St.put]
 refine K59 _ ?_
 refine ak rfl (fun h => by cases h) (fun _ => ?_)
 refine av ?_
 refine K58 _ ?_
 refine yS fun _ K60 => ?_
 refine yu (nx + 1) _ [lst p.text, lst p.firsts, lst p.seconds, lst p.pages, lst (p.pages.map fun x => (dw p.text x : Int)), lst (p.pages.map (ca p.text)), lst (p.pages.map (bf p.text))] zG zW ?_
 refine eo (i := 12) rfl zG (by simp) ?_
 dsimp only
 refine yR ?_
 refine yM rfl rfl ?_
 refine yA rfl rfl ?_
 refine yA rfl rfl ?_
 refine yN ?_
 dsimp only [St.put]
 refine K60 _ ?_
 refine ax ?_
 refine gx rfl (by constructor) (by constructor) zN zS ?_ ?_
 ·rw [xd hE]
 rw [hE]
end Go.Proofs.YtgffhbbcpgdjjaaDoor
namespace Go.AB
open Go Go.RowKit
open Go.AB.Enc (cells)
open Go.PB (ay aj PlaceD bh bj bi bx aq am cv co dq dp)
theorem m4 {p : am} {n : Int} (h : eg p n = 0) : em p = 0 ∧ ∃ (j : Nat) (x : aq), n = (j : Int) ∧ p.pages[j]? = some x ∧ ng p n = x := by
 unfold eg at h
 by_cases hc : em p = 0
 ·rw [decide_eq_true hc, cond_true] at h
  cases hb : inB n 0 ((p.pages.length : Int) - 1)
  ·rw [hb] at h; cases h
  rw [inB_true] at hb
  obtain ⟨x, hx⟩ : ∃ x, p.pages[n.toNat]? = some x := ⟨_, List.getElem?_eq_getElem (show n.toNat < p.pages.length by omega)⟩
  exact ⟨hc, n.toNat, x, by omega, hx, by unfold ng; rw [hx]; rfl⟩
 rw [decide_eq_false hc, cond_false] at h
 exact absurd h hc
end Go.AB
namespace Go.Proofs.YtgffhbbcpgdjjaaDoor
set_option maxRecDepth 10000
open Go.RowKit Go.AB
open Go.AB.Enc (cells)
open Go.PB (ay aj PlaceD bh bj bi bx aq am cv co dq dp)
theorem uf (p : am) : Pure Tryd.prog 13 [val p] (.v (.int .i64 (em p))) := by
 refine dm Tryd.func13 rfl (fun m => .v) fun G nx => ?_
 simp only [Tryd.ntmps13, List.length_cons, List.length_nil, Nat.reduceAdd, Nat.reduceSub]
 refine ct fun hlt => ?_
 dsimp only at hlt
 refine yS fun _ K1 => ?_
 refine yR ?_
 try dsimp only [St.put]
 refine yB rfl rfl rfl ?_
 refine yA rfl rfl ?_
 refine yN ?_
 dsimp only [St.put]
 refine K1 _ ?_
 refine yS fun _ K2 => ?_
 refine yS fun _ K3 => ?_
 refine yR ?_
 refine yF rfl rfl rfl rfl ?_
 try dsimp only [St.put]
 refine du rfl (c := eu p.text) (im (cs := cells p) rfl rfl (show 1 ≤ 4 by decide)) ?_
 try dsimp only [St.put]
 refine af rfl (ba rfl rfl rfl (ujq p.text) ?_)
 refine yA rfl rfl ?_
 refine yN ?_
 dsimp only [St.put]
 refine K3 _ ?_
 refine yS fun _ K4 => ?_
 refine yR ?_
 refine yM rfl rfl ?_
 refine aa rfl (fj rfl rfl rfl) ?_
 refine yN ?_
 dsimp only [St.put]
 refine K4 _ ?_
 refine ak rfl (fun hc => ?_) (fun hc => ?_)
 ·have ht : dl p.text = false := by
   have h0 := ia hc
   unfold ie at h0
   cases h1 : dl p.text
   ·rfl
   rw [h1] at h0; exact absurd rfl h0
  refine yS fun _ K5 => ?_
  refine yR ?_
  refine yM rfl rfl ?_
  refine yA rfl rfl ?_
  refine yN ?_
  dsimp only [St.put]
  refine K5 _ ?_
  refine ax ?_
  refine bp rfl (by constructor) zN zS ?_
  exact vi (by simp [em, ie, ht])
 have ht : dl p.text = true := by
  have h0 := gw hc
  unfold ie at h0
  cases h1 : dl p.text
  ·rw [h1] at h0; cases h0
  rfl
 refine av ?_
 refine K2 _ ?_
 refine yS fun _ K6 => ?_
 refine yS fun _ K7 => ?_
 refine yR ?_
 refine yE rfl rfl rfl ?_
 try dsimp only [St.put]
 refine af rfl (ba rfl rfl rfl (ufw p ht) ?_)
 refine aa rfl (dv rfl rfl) ?_
 refine yN ?_
 dsimp only [St.put]
 refine K7 _ ?_
 refine ak rfl (fun hc => ?_) (fun hc => ?_)
 ·have hp : fw p = false := by simpa using hc
  refine yS fun _ K8 => ?_
  refine yR ?_
  refine yA rfl rfl ?_
  refine yN ?_
  dsimp only [St.put]
  refine K8 _ ?_
  refine ax ?_
  refine bp rfl (by constructor) zN zS ?_
  exact vi (by simp [em, ht, hp])
 have hp : fw p = true := by simpa using hc
 refine av ?_
 refine K6 _ ?_
 refine yS fun _ K9 => ?_
 refine yR ?_
 refine yA rfl rfl ?_
 refine yN ?_
 dsimp only [St.put]
 refine K9 _ ?_
 refine ax ?_
 refine bp rfl (by constructor) zN zS ?_
 exact vi (by simp [em, ht, hp])
theorem ue (p : am) (n : Int) : Pure Tryd.prog 36 [val p, .v (.int .i64 n)] (.v (.int .i64 (eg p n))) := by
 refine dm Tryd.func36 rfl (fun m => .v) fun G nx => ?_
 simp only [Tryd.ntmps36, List.length_cons, List.length_nil, Nat.reduceAdd, Nat.reduceSub]
 refine ct fun hlt => ?_
 dsimp only at hlt
 refine jn 0 (fun hfp => ?_)
 have hfl := (fit_lst.1 (fit_agg.1 hfp _ (by exact List.mem_cons_of_mem _ (List.mem_cons_of_mem _ (List.mem_cons_of_mem _ (List.mem_cons_self ..)))))).1
 refine yS fun _ K1 => ?_
 refine yR ?_
 try dsimp only [St.put]
 refine yB rfl rfl rfl ?_
 refine yA rfl rfl ?_
 refine yN ?_
 dsimp only [St.put]
 refine K1 _ ?_
 refine yS fun _ K2 => ?_
 refine yS fun _ K3 => ?_
 refine yR ?_
 refine yE rfl rfl rfl ?_
 try dsimp only [St.put]
 refine af rfl (ba rfl rfl rfl (uf p) ?_)
 refine yA rfl rfl ?_
 refine yN ?_
 dsimp only [St.put]
 refine K3 _ ?_
 refine yS fun _ K4 => ?_
 refine yR ?_
 refine yM rfl rfl ?_
 refine aa rfl (fj rfl rfl rfl) ?_
 refine yN ?_
 dsimp only [St.put]
 refine K4 _ ?_
 refine ak rfl (fun hc => ?_) (fun hc => ?_)
 ·have h0 : em p ≠ 0 := ia hc
  refine yS fun _ K5 => ?_
  refine yR ?_
  refine yM rfl rfl ?_
  refine yA rfl rfl ?_
  refine yN ?_
  dsimp only [St.put]
  refine K5 _ ?_
  refine ax ?_
  refine bp rfl (by constructor) zN zS ?_
  exact vi (by simp [eg, h0])
 have h0 : em p = 0 := gw hc
 refine av ?_
 refine K2 _ ?_
 refine yS fun _ K6 => ?_
 refine yS fun _ K7 => ?_
 refine yR ?_
 refine yM rfl rfl ?_
 refine yF rfl rfl rfl rfl ?_
 refine yL rfl rfl rfl ?_
 refine aa rfl (bg rfl rfl (List.length_map _)) ?_
 refine aa rfl (gm rfl rfl rfl (by omega)) ?_
 try dsimp only [St.put]
 refine af rfl (ba rfl rfl rfl (ne _ _ _) ?_)
 refine aa rfl (dv rfl rfl) ?_
 refine yN ?_
 dsimp only [St.put]
 refine K7 _ ?_
 refine ak rfl (fun hc => ?_) (fun hc => ?_)
 ·have h1 : inB n 0 ((p.pages.length : Int) - 1) = false := by simpa using hc
  refine yS fun _ K8 => ?_
  refine yR ?_
  refine yA rfl rfl ?_
  refine yN ?_
  dsimp only [St.put]
  refine K8 _ ?_
  refine ax ?_
  refine bp rfl (by constructor) zN zS ?_
  exact vi (by simp [eg, h0, h1])
 have h1 : inB n 0 ((p.pages.length : Int) - 1) = true := by simpa using hc
 refine av ?_
 refine K6 _ ?_
 refine yS fun _ K9 => ?_
 refine yR ?_
 refine yA rfl rfl ?_
 refine yN ?_
 dsimp only [St.put]
 refine K9 _ ?_
 refine ax ?_
 refine bp rfl (by constructor) zN zS ?_
 exact vi (by simp [eg, h0, h1])
end Go.Proofs.YtgffhbbcpgdjjaaDoor
namespace Go.Proofs.YtgffhbbcpgdjjaaDoor
set_option maxRecDepth 10000
open Go.RowKit Go.AB
open Go.AB.Enc (cells)
open Go.PB (ay aj PlaceD bh bj bi bx aq am cv co dq dp)
theorem ufu (p : am) (n : Int) : Pure Tryd.prog 9 [val p, .v (.int .i64 n)] (.tup [.v (.int .i64 (m7 p n)), .v (.int .i64 (eg p n))]) := by
 refine dm Tryd.func9 rfl (fun m => .tup (bk .v (bk .v cg))) fun G nx => ?_
 simp only [Tryd.ntmps9, List.length_cons, List.length_nil, Nat.reduceAdd, Nat.reduceSub]
 refine ct fun hlt => ?_
 dsimp only at hlt
 refine yS fun _ K1 => ?_
 refine yR ?_
 try dsimp only [St.put]
 refine yB rfl rfl rfl ?_
 refine yA rfl rfl ?_
 refine yA rfl rfl ?_
 refine yN ?_
 dsimp only [St.put]
 refine K1 _ ?_
 refine yS fun _ K2 => ?_
 refine yS fun _ K3 => ?_
 refine yR ?_
 refine yE rfl rfl rfl ?_
 refine yM rfl rfl ?_
 try dsimp only [St.put]
 refine af rfl (ba rfl rfl rfl (ue p n) ?_)
 refine yA rfl rfl ?_
 refine yN ?_
 dsimp only [St.put]
 refine K3 _ ?_
 refine yS fun _ K4 => ?_
 refine yR ?_
 refine yM rfl rfl ?_
 refine aa rfl (fj rfl rfl rfl) ?_
 refine yN ?_
 dsimp only [St.put]
 refine K4 _ ?_
 refine ak rfl (fun hc => ?_) (fun hc => ?_)
 ·have h0 : eg p n ≠ 0 := ia hc
  refine yS fun _ K5 => ?_
  refine yR ?_
  refine yM rfl rfl ?_
  refine yA rfl rfl ?_
  refine yA rfl rfl ?_
  refine yN ?_
  dsimp only [St.put]
  refine K5 _ ?_
  refine ax ?_
  refine gx rfl (by constructor) (by constructor) zN zS ?_ ?_
  ·exact vi (by unfold m7 atE; rw [decide_eq_false h0]; rfl)
  rfl
 have h0 : eg p n = 0 := gw hc
 obtain ⟨hck, j, x, hn, hx, hpo⟩ := m4 h0
 obtain ⟨hok, _⟩ := mc hck
 have hV : m7 p n = (dw p.text x : Int) := by unfold m7 atE; rw [h0, hpo]; rfl
 subst hn
 refine av ?_
 refine K2 _ ?_
 refine yS fun _ K6 => ?_
 refine yR ?_
 refine yE rfl rfl rfl ?_
 refine yM rfl rfl ?_
 try dsimp only [St.put]
 refine af rfl (ba rfl rfl rfl (ufq p j x hok.text hx) ?_)
 refine yA rfl rfl ?_
 refine yA rfl rfl ?_
 refine yN ?_
 dsimp only [St.put]
 refine K6 _ ?_
 refine ax ?_
 refine gx rfl (by constructor) (by constructor) zN zS ?_ ?_
 ·exact vi hV.symm
 exact vi h0.symm
theorem uap (p : am) (n : Int) : Pure Tryd.prog 11 [val p, .v (.int .i64 n)] (.tup [lst (kh p n), .v (.int .i64 (eg p n))]) := by
 refine dm Tryd.func11 rfl (fun m => .tup (bk (ar _ _) (bk .v cg))) fun G nx => ?_
 simp only [Tryd.ntmps11, List.length_cons, List.length_nil, Nat.reduceAdd, Nat.reduceSub]
 refine ct fun hlt => ?_
 dsimp only at hlt
 refine yS fun _ K1 => ?_
 refine yR ?_
 try dsimp only [St.put]
 refine yB rfl rfl rfl ?_
 refine yA rfl rfl ?_
 refine yA rfl rfl ?_
 refine yN ?_
 dsimp only [St.put]
 refine K1 _ ?_
 refine yS fun _ K2 => ?_
 refine yS fun _ K3 => ?_
 refine yR ?_
 refine yE rfl rfl rfl ?_
 refine yM rfl rfl ?_
 try dsimp only [St.put]
 refine af rfl (ba rfl rfl rfl (ue p n) ?_)
 refine yA rfl rfl ?_
 refine yN ?_
 dsimp only [St.put]
 refine K3 _ ?_
 refine yS fun _ K4 => ?_
 refine yR ?_
 refine yM rfl rfl ?_
 refine aa rfl (fj rfl rfl rfl) ?_
 refine yN ?_
 dsimp only [St.put]
 refine K4 _ ?_
 refine ak rfl (fun hc => ?_) (fun hc => ?_)
 ·have h0 : eg p n ≠ 0 := ia hc
  refine yS fun _ K5 => ?_
  refine yR ?_
  refine yM rfl rfl ?_
  refine yA rfl rfl ?_
  refine yA rfl rfl ?_
  refine yN ?_
  dsimp only [St.put]
  refine K5 _ ?_
  refine ax ?_
  refine iv rfl (fl (by constructor)) (fl (by constructor)) zN zS ?_ ?_
  ·rw [show kh p n = [] by unfold kh atE; rw [decide_eq_false h0]; rfl]
   exact zW
  exact zW
 have h0 : eg p n = 0 := gw hc
 obtain ⟨hck, j, x, hn, hx, hpo⟩ := m4 h0
 obtain ⟨hok, _⟩ := mc hck
 have hV : kh p n = ca p.text x := by unfold kh atE; rw [h0, hpo]; rfl
 have hp := pageB_true.1 (hok.page j x hx)
 have hfl := io hp.found
 have hwl := io hp.well
 have hal := km hok.text
 subst hn
 refine av ?_
 refine K2 _ ?_
 refine yS fun _ K6 => ?_
 refine yR ?_
 refine yE rfl rfl rfl ?_
 refine yM rfl rfl ?_
 try dsimp only [St.put]
 refine af rfl (ba rfl rfl rfl (ual p j x hok.text hx (by omega) (by omega)) ?_)
 refine yA rfl rfl ?_
 refine yA rfl rfl ?_
 refine yN ?_
 dsimp only [St.put]
 refine K6 _ ?_
 refine ax ?_
 refine gx rfl (by constructor) (by constructor) zN zS ?_ ?_
 ·rw [hV]; rfl
 exact vi h0.symm
theorem uar (p : am) (n : Int) : Pure Tryd.prog 16 [val p, .v (.int .i64 n)] (.tup [lst (kk p n), .v (.int .i64 (eg p n))]) := by
 refine dm Tryd.func16 rfl (fun m => .tup (bk (ar _ _) (bk .v cg))) fun G nx => ?_
 simp only [Tryd.ntmps16, List.length_cons, List.length_nil, Nat.reduceAdd, Nat.reduceSub]
 refine ct fun hlt => ?_
 dsimp only at hlt
 refine yS fun _ K1 => ?_
 refine yR ?_
 try dsimp only [St.put]
 refine yB rfl rfl rfl ?_
 refine yA rfl rfl ?_
 refine yA rfl rfl ?_
 refine yN ?_
 dsimp only [St.put]
 refine K1 _ ?_
 refine yS fun _ K2 => ?_
 refine yS fun _ K3 => ?_
 refine yR ?_
 refine yE rfl rfl rfl ?_
 refine yM rfl rfl ?_
 try dsimp only [St.put]
 refine af rfl (ba rfl rfl rfl (ue p n) ?_)
 refine yA rfl rfl ?_
 refine yN ?_
 dsimp only [St.put]
 refine K3 _ ?_
 refine yS fun _ K4 => ?_
 refine yR ?_
 refine yM rfl rfl ?_
 refine aa rfl (fj rfl rfl rfl) ?_
 refine yN ?_
 dsimp only [St.put]
 refine K4 _ ?_
 refine ak rfl (fun hc => ?_) (fun hc => ?_)
 ·have h0 : eg p n ≠ 0 := ia hc
  refine yS fun _ K5 => ?_
  refine yR ?_
  refine yM rfl rfl ?_
  refine yA rfl rfl ?_
  refine yA rfl rfl ?_
  refine yN ?_
  dsimp only [St.put]
  refine K5 _ ?_
  refine ax ?_
  refine iv rfl (fl (by constructor)) (fl (by constructor)) zN zS ?_ ?_
  ·rw [show kk p n = [] by unfold kk atE; rw [decide_eq_false h0]; rfl]
   exact zW
  exact zW
 have h0 : eg p n = 0 := gw hc
 obtain ⟨hck, j, x, hn, hx, hpo⟩ := m4 h0
 obtain ⟨hok, _⟩ := mc hck
 have hV : kk p n = bf p.text x := by unfold kk atE; rw [h0, hpo]; rfl
 have hp := pageB_true.1 (hok.page j x hx)
 have hfl := io hp.found
 have hwl := io hp.well
 have hal := km hok.text
 subst hn
 refine av ?_
 refine K2 _ ?_
 refine yS fun _ K6 => ?_
 refine yR ?_
 refine yE rfl rfl rfl ?_
 refine yM rfl rfl ?_
 try dsimp only [St.put]
 refine af rfl (ba rfl rfl rfl (uak p j x hok.text hx (by omega) (by omega)) ?_)
 refine yA rfl rfl ?_
 refine yA rfl rfl ?_
 refine yN ?_
 dsimp only [St.put]
 refine K6 _ ?_
 refine ax ?_
 refine gx rfl (by constructor) (by constructor) zN zS ?_ ?_
 ·rw [hV]; rfl
 exact vi h0.symm
end Go.Proofs.YtgffhbbcpgdjjaaDoor
namespace Go.Proofs.YtgffhbbcpgdjjaaDoor
set_option maxRecDepth 10000
open Go.RowKit Go.AB
open Go.AB.Enc (cells)
open Go.PB (ay aj PlaceD bh bj bi bx aq am cv co dq dp)
theorem uaq (p : am) (b : Bool) (n : Int) : Pure Tryd.prog 18 [val p, .v (.bool b), .v (.int .i64 n)] (.tup [.v (.int .i64 (mz p b n)), .v (.int .i64 (jx p b n))]) := by
 refine dm Tryd.func18 rfl (fun m => .tup (bk .v (bk .v cg))) fun G nx => ?_
 simp only [Tryd.ntmps18, List.length_cons, List.length_nil, Nat.reduceAdd, Nat.reduceSub]
 refine ct fun hlt => ?_
 dsimp only at hlt
 refine yS fun _ K1 => ?_
 refine yR ?_
 try dsimp only [St.put]
 refine yB rfl rfl rfl ?_
 refine yA rfl rfl ?_
 refine yA rfl rfl ?_
 refine yN ?_
 dsimp only [St.put]
 refine K1 _ ?_
 refine yS fun _ K2 => ?_
 refine yS fun _ K3 => ?_
 refine yR ?_
 refine yE rfl rfl rfl ?_
 try dsimp only [St.put]
 refine af rfl (ba rfl rfl rfl (uf p) ?_)
 refine yA rfl rfl ?_
 refine yN ?_
 dsimp only [St.put]
 refine K3 _ ?_
 refine yS fun _ K4 => ?_
 refine yR ?_
 refine yM rfl rfl ?_
 refine aa rfl (fj rfl rfl rfl) ?_
 refine yN ?_
 dsimp only [St.put]
 refine K4 _ ?_
 refine ak rfl (fun hc => ?_) (fun hc => ?_)
 ·have h0 : em p ≠ 0 := ia hc
  have hE : jx p b n = em p := by simp [jx, h0]
  refine yS fun _ K5 => ?_
  refine yR ?_
  refine yM rfl rfl ?_
  refine yA rfl rfl ?_
  refine yA rfl rfl ?_
  refine yN ?_
  dsimp only [St.put]
  refine K5 _ ?_
  refine ax ?_
  refine gx rfl (by constructor) (by constructor) zN zS ?_ ?_
  ·exact vi (by simp [mz, atE, hE, h0])
  exact vi hE.symm
 have h0 : em p = 0 := gw hc
 obtain ⟨hok, _⟩ := mc h0
 have hn1 := hok.nf
 have hn2 := hok.ns
 have hsl : (cz p b).length ≤ 3 := by
  cases b
  ·exact hn1
  exact hn2
 refine av ?_
 refine K2 _ ?_
 refine yS fun _ K6 => ?_
 refine yR ?_
 refine yF rfl rfl rfl rfl ?_
 refine yL rfl rfl rfl ?_
 refine aa rfl (bg rfl rfl (List.length_map _)) ?_
 refine yA rfl rfl ?_
 refine yN ?_
 dsimp only [St.put]
 refine K6 _ ?_
 refine cj 12 ?_
 refine zQ ?_
 refine ix (X := Unit) (fun _ => True) (fun _ => [(9, .v (.int .i64 ((cz p b).length : Int)))]) (fun _ G' => G') rfl ?_ (fun _ _ _ _ h => .inl h) ?_ ?_
 ·rintro _ hI
  exact zL
 ·refine yS fun _ K8 => ?_
  refine yR ?_
  refine yM rfl rfl ?_
  refine yN ?_
  dsimp only [St.put]
  refine K8 _ ?_
  refine ak rfl (fun hc => ?_) (fun hc => ?_)
  ·obtain rfl : b = true := hc
   refine yR ?_
   refine yF rfl rfl rfl rfl ?_
   refine yL rfl rfl rfl ?_
   refine aa rfl (bg rfl rfl (List.length_map _)) ?_
   refine yA rfl rfl ?_
   refine yN ?_
   dsimp only [St.put]
   exact ⟨(), trivial, ⟨⟨rfl, rfl⟩, zF, zB, zN, zX⟩⟩
  obtain rfl : b = false := hc
  refine av ?_
  exact ⟨(), trivial, ⟨⟨rfl, rfl⟩, zF, zB, zN, zX⟩⟩
 rintro _ hI
 dsimp only at hI ⊢
 refine yS fun _ K9 => ?_
 refine yS fun _ K10 => ?_
 refine yR ?_
 refine yM rfl rfl ?_
 refine yM rfl rfl ?_
 refine aa rfl (gm rfl rfl rfl (by omega)) ?_
 try dsimp only [St.put]
 refine af rfl (ba rfl rfl rfl (ne _ _ _) ?_)
 refine aa rfl (dv rfl rfl) ?_
 refine yN ?_
 dsimp only [St.put]
 refine K10 _ ?_
 refine ak rfl (fun hc => ?_) (fun hc => ?_)
 ·have h1 : inB n 0 (((cz p b).length : Int) - 1) = false := by simpa using hc
  have hE : jx p b n = 2 := by simp [jx, h0, h1]
  refine yS fun _ K11 => ?_
  refine yR ?_
  refine yA rfl rfl ?_
  refine yA rfl rfl ?_
  refine yN ?_
  dsimp only [St.put]
  refine K11 _ ?_
  refine ax ?_
  refine gx rfl (by constructor) (by constructor) zN zS ?_ ?_
  ·exact vi (by simp [mz, atE, hE])
  exact vi hE.symm
 have h1 : inB n 0 (((cz p b).length : Int) - 1) = true := by simpa using hc
 have hE : jx p b n = 0 := by simp [jx, h0, h1]
 obtain ⟨j, hj⟩ : ∃ j : Nat, n = (j : Int) := ⟨n.toNat, by have := inB_true.1 h1; omega⟩
 subst hj
 have hlt : j < (cz p b).length := by have := inB_true.1 h1; omega
 have hV : mz p b (j : Int) = jz p b j := by simp [mz, atE, hE]
 refine av ?_
 refine K9 _ ?_
 refine yS fun _ K12 => ?_
 refine yR ?_
 refine yE rfl rfl rfl ?_
 refine yM rfl rfl ?_
 refine yM rfl rfl ?_
 try dsimp only [St.put]
 refine af rfl (ba rfl rfl rfl (uft p b j hok hlt) ?_)
 refine yM rfl rfl ?_
 refine yX rfl rfl rfl rfl ?_
 refine yX rfl rfl rfl rfl ?_
 refine yA rfl rfl ?_
 refine yA rfl rfl ?_
 refine yN ?_
 dsimp only [St.put]
 refine K12 _ ?_
 refine yS fun _ K13 => ?_
 refine yR ?_
 refine yM rfl rfl ?_
 refine yA rfl rfl ?_
 refine yA rfl rfl ?_
 refine yN ?_
 dsimp only [St.put]
 refine K13 _ ?_
 refine ax ?_
 refine gx rfl (by constructor) (by constructor) zN zS ?_ ?_
 ·exact vi hV.symm
 exact vi hE.symm
end Go.Proofs.YtgffhbbcpgdjjaaDoor
namespace Go.Proofs.YtgffhbbcpgdjjaaDoor
set_option maxRecDepth 10000
open Go.RowKit Go.AB
open Go.AB.Enc (cells)
open Go.PB (ay aj PlaceD bh bj bi bx aq am cv co dq dp)
end Go.Proofs.YtgffhbbcpgdjjaaDoor
namespace Go.AB
open Go Go.RowKit
open Go.AB.Enc (cells)
open Go.PB (ay aj PlaceD bh bj bi bx aq am cv co)
/-! ### First and second readers change their places -/
/-! ### Errors that are missed -/
end Go.AB
namespace Go.AB
open Go Go.RowKit
open Go.AB.Enc (cells)
open Go.PB (ay aj PlaceD bh bj bi bx aq am cv co dq dp)
end Go.AB
namespace Go.AB
open Go Go.RowKit
open Go.AB.Enc (cells)
open Go.PB (ay aj PlaceD bh bj bi bx aq am cv co dq dp)
end Go.AB
namespace Go.Proofs.YtgffhbbcpgdjjaaDoor
set_option maxRecDepth 10000
open Go.RowKit Go.AB
open Go.AB.Enc (cells)
open Go.PB (ay aj PlaceD bh bj bi bx aq am cv co dq dp)
end Go.Proofs.YtgffhbbcpgdjjaaDoor
namespace Go.AB
open Go Go.RowKit
open Go.AB.Enc (cells)
open Go.PB (ay aj PlaceD bh bj bi bx aq am cv co dq dp)
theorem nz {α : Type} {e : Int} (h : e ≠ 0) (d v : α) : atE e d v = d := by unfold atE; rw [decide_eq_false h]; rfl
end Go.AB
namespace Go.Proofs.YtgffhbbcpgdjjaaDoor
set_option maxRecDepth 10000
open Go.RowKit Go.AB
open Go.AB.Enc (cells)
open Go.PB (ay aj PlaceD bh bj bi bx aq am cv co dq dp)
end Go.Proofs.YtgffhbbcpgdjjaaDoor
namespace Go.AB
open Go Go.RowKit
open Go.AB.Enc (cells)
open Go.PB (ay aj PlaceD bh bj bi bx aq am cv co dq dp)
theorem pk {P : Program} {o : Oper} {st : St} {t : TypeId} {x y : Operand} {k : IntKind} {a b : Int} (hab : a = b) (ho : o.op = .binOp .neq t x y t) (hx : evC st x = .v (.int k a)) (hy : evC st y = .v (.int k b)) : NStep P o st (.v (.bool false)) := by
 subst hab
 have := fj (P := P) ho hx hy
 rwa [decide_eq_true rfl] at this
instance : FlatV bx := ⟨fun x => [.int .i64 x.id, .int .i64 x.miss], fun _ => rfl⟩
instance : FlatV co := ⟨fun x => [.int .i64 x.lo, .int .i64 x.hi], fun _ => rfl⟩
def jy (x : aq) : Bool := decide (200 < x.found.length) || decide (200 < x.well.length)
def ms (p : am) : Bool := kg p.text || decide (6 < p.firsts.length) || decide (6 < p.seconds.length) || decide (12 < p.pages.length) || p.pages.any jy
theorem ub3 {p : am} {n : Int} {j : Nat} {x : aq} (h0 : eg p n = 0) (hpo : ng p n = x) (hn : n = (j : Int)) (hk : (bf p.text x).length ≠ 0) : kf p n = 0 ∧ i5 p n = uz x (bf p.text x).length := by
 have hE : kf p n = 0 := by unfold kf; rw [h0, hpo, decide_eq_false hk]; rfl
 exact ⟨hE, by unfold i5; rw [hE, hpo]; rfl⟩
end Go.AB
namespace Go.Proofs.YtgffhbbcpgdjjaaDoor
set_option maxRecDepth 10000
open Go.RowKit Go.AB
open Go.AB.Enc (cells)
open Go.PB (ay aj PlaceD bh bj bi bx aq am cv co dq dp)
theorem ud4 : Tryd.prog.underlying 71 = some (.struct (Tryd.prog.fieldsOf 71)) := by kernel_rfl
theorem ue4 : Tryd.prog.stoodInHeld 71 = false := by kernel_rfl
instance : EqT Tryd.prog 71 bx where
 guard op w x y xs ys := run_eqGuard_agg w op _ x y xs ys (by kernel_rfl)
 same w x y := by
  obtain ⟨a, b⟩ := x
  obtain ⟨a', b'⟩ := y
  simp only [FlatV.vals]
  rw [run_equalIn_agg _ _ _ _ _ ud4 ue4]
  by_cases h1 : a = a' <;> by_cases h2 : b = b' <;> simp [go_sem, h1, h2]
theorem ud3 : Tryd.prog.underlying 47 = some (.struct (Tryd.prog.fieldsOf 47)) := by kernel_rfl
theorem ue3 : Tryd.prog.stoodInHeld 47 = false := by kernel_rfl
instance : EqT Tryd.prog 47 co where
 guard op w x y xs ys := run_eqGuard_agg w op _ x y xs ys (by kernel_rfl)
 same w x y := by
  obtain ⟨a, b⟩ := x
  obtain ⟨a', b'⟩ := y
  simp only [FlatV.vals]
  rw [run_equalIn_agg _ _ _ _ _ ud3 ue3]
  by_cases h1 : a = a' <;> by_cases h2 : b = b' <;> simp [go_sem, h1, h2]
theorem uao (p : am) (n : Int) : Pure Tryd.prog 20 [val p, .v (.int .i64 n)] (.tup [val (i5 p n), .v (.int .i64 (kf p n))]) := by
 refine dm Tryd.func20 rfl (fun m => .tup (bk (cw _ _) (bk .v cg))) fun G nx => ?_
 simp only [Tryd.ntmps20, List.length_cons, List.length_nil, Nat.reduceAdd, Nat.reduceSub]
 refine ct fun hlt => ?_
 dsimp only at hlt
 refine yS fun _ K1 => ?_
 refine yR ?_
 try dsimp only [St.put]
 refine yB rfl rfl rfl ?_
 try dsimp only [St.put]
 refine af rfl (eh rfl ?_)
 refine yA rfl rfl ?_
 refine yN ?_
 dsimp only [St.put]
 refine K1 _ ?_
 refine yS fun _ K2 => ?_
 refine yS fun _ K3 => ?_
 refine yR ?_
 refine yE rfl rfl rfl ?_
 refine yM rfl rfl ?_
 try dsimp only [St.put]
 refine af rfl (ba rfl rfl rfl (ue p n) ?_)
 refine yA rfl rfl ?_
 refine yN ?_
 dsimp only [St.put]
 refine K3 _ ?_
 refine yS fun _ K4 => ?_
 refine yR ?_
 refine yM rfl rfl ?_
 refine aa rfl (fj rfl rfl rfl) ?_
 refine yN ?_
 dsimp only [St.put]
 refine K4 _ ?_
 refine ak rfl (fun hc => ?_) (fun hc => ?_)
 ·have h0 : eg p n ≠ 0 := ia hc
  have hE : kf p n = eg p n := by unfold kf; rw [decide_eq_false h0]; rfl
  have hV : i5 p n = ⟨0, 0⟩ := by unfold i5; rw [hE, nz h0]
  refine yS fun _ K5 => ?_
  refine yR ?_
  refine aa rfl (l5 rfl rfl) ?_
  refine yM rfl rfl ?_
  try dsimp only [St.put]
  refine af rfl (dt rfl rfl rfl zG rfl rfl (by rfl) ?_)
  refine yA rfl rfl ?_
  refine yN ?_
  dsimp only [St.put]
  refine K5 _ ?_
  refine ax ?_
  refine iv rfl (om rfl zG (by rfl) zC rfl) (fl (by constructor)) zN zS ?_ ?_
  ·rw [hV]; exact zW
  rw [hE]; exact zW
 have h0 : eg p n = 0 := gw hc
 obtain ⟨hc0, j, x, rfl, hx, hpo⟩ := m4 h0
 obtain ⟨hok, _⟩ := mc hc0
 have hp := pageB_true.1 (hok.page j x hx)
 have hal := km hok.text
 have hfl := io hp.found
 have hwl := io hp.well
 have hbl := rb p.text x
 refine av ?_
 refine K2 _ ?_
 refine yS fun _ K6 => ?_
 refine yR ?_
 refine yE rfl rfl rfl ?_
 refine yM rfl rfl ?_
 try dsimp only [St.put]
 refine af rfl (ba rfl rfl rfl (uak p j x hok.text hx (by omega) (by omega)) ?_)
 refine aa rfl (bg rfl rfl (List.length_map _)) ?_
 refine yA rfl rfl ?_
 refine yN ?_
 dsimp only [St.put]
 refine K6 _ ?_
 refine yS fun _ K7 => ?_
 refine yS fun _ K8 => ?_
 refine yR ?_
 refine yM rfl rfl ?_
 refine aa rfl (ir rfl rfl rfl) ?_
 refine yN ?_
 dsimp only [St.put]
 refine K8 _ ?_
 refine ak rfl (fun hc => ?_) (fun hc => ?_)
 ·have hk : (bf p.text x).length = 0 := by have := of_decide_eq_true hc; omega
  have hE : kf p (j : Int) = 6 := by unfold kf; rw [h0, hpo, decide_eq_true hk]; rfl
  have hV : i5 p (j : Int) = ⟨0, 0⟩ := by unfold i5; rw [hE, nz (by decide)]
  refine yS fun _ K9 => ?_
  refine yR ?_
  refine aa rfl (l5 rfl rfl) ?_
  try dsimp only [St.put]
  refine af rfl (dt rfl rfl rfl zG rfl rfl (by rfl) ?_)
  refine yA rfl rfl ?_
  refine yN ?_
  dsimp only [St.put]
  refine K9 _ ?_
  refine ax ?_
  refine iv rfl (om rfl zG (by rfl) zC rfl) (fl (by constructor)) zN zS ?_ ?_
  ·rw [hV]; exact zW
  rw [hE]; exact zW
 have hk : ¬ (bf p.text x).length = 0 := by have := of_decide_eq_false hc; omega
 obtain ⟨hE, hV⟩ := ub3 h0 hpo rfl hk
 have hfw : x.found.length * x.well.length ≤ 600 * 600 := Nat.mul_le_mul (by omega) (by omega)
 have hfc := Int.natCast_mul x.found.length x.well.length
 have hjl := (List.getElem?_eq_some_iff.1 hx).1
 refine av ?_
 refine K7 _ ?_
 refine yS fun _ K10 => ?_
 refine f4 [(0, none), (1, none), (2, none), (3, none), (4, none), (5, none), (6, none), (7, none), (8, none), (9, none), (10, none), (11, none), (12, none), (13, none), (14, none), (15, none)] (fun i => [].contains i) (fun i => [].contains i) (fun i => [0, 2, 3, 4, 6, 7, 9, 10, 11, 13, 14, 15].contains i) [] (by kernel_rfl) (by kernel_rfl) ?_
 refine ae rfl rfl rfl rfl (cb rfl rfl rfl) ?_
 try dsimp only [St.put]
 refine aw rfl rfl rfl rfl (bv rfl rfl) ?_
 refine xM rfl rfl rfl rfl rfl ?_
 try dsimp only [St.put]
 refine ae rfl rfl rfl rfl (bl rfl rfl rfl rfl (bn (by assumption)) (Enc.len _)) ?_
 refine ae rfl rfl rfl rfl (cb rfl rfl rfl) ?_
 try dsimp only [St.put]
 refine aw rfl rfl rfl rfl (bv rfl rfl) ?_
 refine ae rfl rfl rfl rfl (bg rfl rfl (List.length_map _)) ?_
 refine ae rfl rfl rfl rfl (cb rfl rfl rfl) ?_
 try dsimp only [St.put]
 refine aw rfl rfl rfl rfl (bv rfl rfl) ?_
 refine xM rfl rfl rfl rfl rfl ?_
 try dsimp only [St.put]
 refine ae rfl rfl rfl rfl (bl rfl rfl rfl rfl (bn (by assumption)) (Enc.len _)) ?_
 refine ae rfl rfl rfl rfl (cb rfl rfl rfl) ?_
 try dsimp only [St.put]
 refine aw rfl rfl rfl rfl (bv rfl rfl) ?_
 refine ae rfl rfl rfl rfl (bg rfl rfl (List.length_map _)) ?_
 refine ae rfl rfl rfl rfl (sd rfl rfl rfl (by omega)) ?_
 refine ae rfl rfl rfl rfl (gn rfl (by constructor)) ?_
 refine bq ?_
 dsimp only [St.put]
 rw [show (x.found.length : Int) * (x.well.length : Int) = ((x.found.length * x.well.length : Nat) : Int) from hfc.symm]
 obtain ⟨M, hM⟩ : ∃ M, x.found.length * x.well.length = M := ⟨_, rfl⟩
 obtain ⟨K, hK⟩ : ∃ K, (bf p.text x).length = K := ⟨_, rfl⟩
 have hV2 : i5 p (j : Int) = ⟨(M : Int) / (K : Int), ((M : Int) + (K : Int) - 1) / (K : Int)⟩ := by
  rw [hV]
  unfold uz
  rw [hM, hK, Int.natCast_ediv, Int.natCast_ediv, show ((M + K - 1 : Nat) : Int) = (M : Int) + (K : Int) - 1 by omega]
 rw [hM] at hfw
 rw [hK] at hk hbl
 rw [hM, hK]
 refine K10 _ ?_
 refine yS fun _ K11 => ?_
 refine f4 [(0, none), (1, none), (2, none), (3, none), (4, none), (5, none), (6, none), (7, none), (8, none), (9, none), (10, none), (11, none)] (fun i => [10].contains i) (fun i => [10].contains i) (fun i => [0, 1, 2, 3, 4, 5, 6, 7, 8, 9, 11].contains i) [] (by kernel_rfl) (by kernel_rfl) ?_
 refine xM rfl rfl rfl rfl rfl ?_
 refine xM rfl rfl rfl rfl rfl ?_
 refine ae rfl rfl rfl rfl (pj rfl rfl rfl (by omega) (by omega)) ?_
 refine xM rfl rfl rfl rfl rfl ?_
 refine xM rfl rfl rfl rfl rfl ?_
 refine ae rfl rfl rfl rfl (br rfl rfl rfl (by omega)) ?_
 refine ae rfl rfl rfl rfl (gm rfl rfl rfl (by omega)) ?_
 refine xM rfl rfl rfl rfl rfl ?_
 refine ae rfl rfl rfl rfl (pj rfl rfl rfl (by omega) (by omega)) ?_
 refine ae rfl rfl rfl rfl (l5 rfl rfl) ?_
 refine ij ?_
 try dsimp only [St.put]
 refine gt rfl rfl rfl rfl (dt rfl rfl rfl zG rfl rfl (by rfl) ?_)
 refine di rfl rfl rfl rfl (gn rfl (by constructor)) ?_
 refine ii ?_
 dsimp only [St.put]
 refine K11 _ ?_
 refine ax ?_
 refine iv rfl (om rfl zG (by rfl) zC rfl) (fl (by constructor)) zN zS ?_ ?_
 ·rw [hV2]; exact zW
 rw [hE]; exact zW
theorem ufx (p : am) : Pure Tryd.prog 6 [val p] (.v (.bool (ms p))) := by
 refine dm Tryd.func6 rfl (fun m => .v) fun G nx => ?_
 simp only [Tryd.ntmps6, List.length_cons, List.length_nil, Nat.reduceAdd, Nat.reduceSub]
 refine ct fun hlt => ?_
 dsimp only at hlt
 refine yS fun _ K1 => ?_
 refine yR ?_
 try dsimp only [St.put]
 refine yB rfl rfl rfl ?_
 refine yA rfl rfl ?_
 refine yN ?_
 dsimp only [St.put]
 refine K1 _ ?_
 refine yS fun _ K2 => ?_
 refine cj 4 ?_
 refine zQ ?_
 refine ix (X := Bool) (fun d => (kg p.text || decide (6 < p.firsts.length) || decide (6 < p.seconds.length) || decide (12 < p.pages.length)) = d) (fun d => [(24, .v (.bool d))]) (fun d G' => G') rfl ?_ (fun _ _ _ _ h => .inl h) ?_ ?_
 ·rintro d hI
  exact zL
 ·refine yR ?_
  refine yF rfl rfl rfl rfl ?_
  try dsimp only [St.put]
  refine du rfl (c := eu p.text) (im (cs := cells p) rfl rfl (show 1 ≤ 4 by decide)) ?_
  try dsimp only [St.put]
  refine af rfl (ba rfl rfl rfl (ujm p.text) ?_)
  refine yM rfl rfl ?_
  refine ep (fun hs => ?_) (fun hs => ?_)
  ·have h1 : kg p.text = true := hs
   refine yK rfl ?_
   refine yK rfl ?_
   refine yK rfl ?_
   refine yK rfl ?_
   refine aa rfl (ck rfl rfl (by constructor)) ?_
   refine yM rfl rfl ?_
   refine yK rfl ?_
   refine yK rfl ?_
   refine yK rfl ?_
   refine yK rfl ?_
   refine aa rfl (ck rfl rfl (by constructor)) ?_
   refine yM rfl rfl ?_
   refine yK rfl ?_
   refine yK rfl ?_
   refine yK rfl ?_
   refine yK rfl ?_
   refine aa rfl (ck rfl rfl (by constructor)) ?_
   refine yN ?_
   dsimp only [St.put]
   refine ⟨_, ?_, ⟨⟨rfl, rfl⟩, zF, zB, zN, zX⟩⟩
   first
   | (simp [h1]; done)
   | (simp [h1, h2]; done)
   | (simp [h1, h2, h3]; done)
   | (simp [h1, h2, h3]; omega)
  have h1 : kg p.text = false := hs
  refine yF rfl rfl rfl rfl ?_
  refine yL rfl rfl rfl ?_
  refine aa rfl (bg rfl rfl (List.length_map _)) ?_
  refine aa rfl (gq rfl rfl rfl) ?_
  refine aa rfl (bz rfl rfl (by constructor)) ?_
  refine yM rfl rfl ?_
  refine ep (fun hs => ?_) (fun hs => ?_)
  ·have h2 : 6 < p.firsts.length := by have := of_decide_eq_true hs; omega
   refine yK rfl ?_
   refine yK rfl ?_
   refine yK rfl ?_
   refine yK rfl ?_
   refine aa rfl (ck rfl rfl (by constructor)) ?_
   refine yM rfl rfl ?_
   refine yK rfl ?_
   refine yK rfl ?_
   refine yK rfl ?_
   refine yK rfl ?_
   refine aa rfl (ck rfl rfl (by constructor)) ?_
   refine yN ?_
   dsimp only [St.put]
   refine ⟨_, ?_, ⟨⟨rfl, rfl⟩, zF, zB, zN, zX⟩⟩
   first
   | (simp [h1]; done)
   | (simp [h1, h2]; done)
   | (simp [h1, h2, h3]; done)
   | (simp [h1, h2, h3]; omega)
  have h2 : ¬ 6 < p.firsts.length := by have := of_decide_eq_false hs; omega
  refine yF rfl rfl rfl rfl ?_
  refine yL rfl rfl rfl ?_
  refine aa rfl (bg rfl rfl (List.length_map _)) ?_
  refine aa rfl (gq rfl rfl rfl) ?_
  refine aa rfl (bz rfl rfl (by constructor)) ?_
  refine yM rfl rfl ?_
  refine ep (fun hs => ?_) (fun hs => ?_)
  ·have h3 : 6 < p.seconds.length := by have := of_decide_eq_true hs; omega
   refine yK rfl ?_
   refine yK rfl ?_
   refine yK rfl ?_
   refine yK rfl ?_
   refine aa rfl (ck rfl rfl (by constructor)) ?_
   refine yN ?_
   dsimp only [St.put]
   refine ⟨_, ?_, ⟨⟨rfl, rfl⟩, zF, zB, zN, zX⟩⟩
   first
   | (simp [h1]; done)
   | (simp [h1, h2]; done)
   | (simp [h1, h2, h3]; done)
   | (simp [h1, h2, h3]; omega)
  have h3 : ¬ 6 < p.seconds.length := by have := of_decide_eq_false hs; omega
  refine yF rfl rfl rfl rfl ?_
  refine yL rfl rfl rfl ?_
  refine aa rfl (bg rfl rfl (List.length_map _)) ?_
  refine aa rfl (gq rfl rfl rfl) ?_
  refine aa rfl (bz rfl rfl (by constructor)) ?_
  refine yN ?_
  dsimp only [St.put]
  refine ⟨_, ?_, ⟨⟨rfl, rfl⟩, zF, zB, zN, zX⟩⟩
  first
  | (simp [h1]; done)
  | (simp [h1, h2]; done)
  | (simp [h1, h2, h3]; done)
  | (simp [h1, h2, h3]; omega)
 rintro d hst
 dsimp only at hst ⊢
 refine ak rfl (fun hc => ?_) (fun hc => ?_)
 ·rw [hc] at hst
  refine yS fun _ K4 => ?_
  refine yR ?_
  refine yA rfl rfl ?_
  refine yN ?_
  dsimp only [St.put]
  refine K4 _ ?_
  refine ax ?_
  refine bp rfl (by constructor) zN zS ?_
  exact vb (by unfold ms; rw [hst]; rfl)
 rw [hc] at hst
 have hpl : ¬ 12 < p.pages.length := fun h => by rw [decide_eq_true h, Bool.or_true] at hst; cases hst
 refine av ?_
 refine K2 _ ?_
 refine yS fun _ K5 => ?_
 refine yS fun _ K6 => ?_
 refine yR ?_
 refine yA rfl rfl ?_
 refine yN ?_
 dsimp only [St.put]
 refine K6 _ ?_
 refine az ?_
 refine cj 4 ?_
 refine zQ ?_
 refine db (G) zX ?_
 dsimp only
 refine c7 (X := Nat) (fun i => i ≤ p.pages.length ∧ ∀ x ∈ p.pages.take i, jy x = false) (fun i => p.pages.length - i) (fun i => [(3, .v (.int .i64 (i : Int)))]) (fun i G' => G') 0 rfl ?_ ?_ (fun _ _ h => h) ?_ ?_ ?_
 ·exact ⟨Nat.zero_le _, by simp⟩
 ·exact zF
 ·rintro i hI
  exact zL
 ·exact fun _ _ _ _ h => .inl h
 rintro i hI
 dsimp only at hI ⊢
 refine yS fun _ K7 => ?_
 refine yS fun _ K8 => ?_
 refine yR ?_
 refine yM rfl rfl ?_
 refine yF rfl rfl rfl rfl ?_
 refine yL rfl rfl rfl ?_
 refine aa rfl (bg rfl rfl (List.length_map _)) ?_
 refine aa rfl (cn rfl rfl rfl) ?_
 refine yN ?_
 dsimp only [St.put]
 refine K8 _ ?_
 refine ak rfl (fun hc => ?_) (fun hc => ?_)
 ·replace hc := of_decide_eq_true hc
  obtain ⟨x, hx⟩ : ∃ x, p.pages[i]? = some x := cx (by omega)
  refine av ?_
  refine K7 _ ?_
  refine yS fun _ K9 => ?_
  refine az ?_
  refine yS fun _ K10 => ?_
  refine yR ?_
  refine yF rfl rfl rfl rfl ?_
  refine yL rfl rfl rfl ?_
  refine yM rfl rfl ?_
  refine aa rfl (bl rfl rfl rfl rfl (bn (by assumption)) (Enc.len _)) ?_
  refine yF rfl rfl rfl rfl ?_
  refine yL rfl rfl rfl ?_
  refine aa rfl (bg rfl rfl (List.length_map _)) ?_
  refine aa rfl (gq rfl rfl rfl) ?_
  refine yM rfl rfl ?_
  refine ep (fun hs => ?_) (fun hs => ?_)
  ·have g1 : 200 < x.found.length := by have := of_decide_eq_true hs; omega
   refine yK rfl ?_
   refine yK rfl ?_
   refine yK rfl ?_
   refine yK rfl ?_
   refine yK rfl ?_
   refine yK rfl ?_
   refine yK rfl ?_
   refine yK rfl ?_
   refine aa rfl (ck rfl rfl (by constructor)) ?_
   refine yN ?_
   dsimp only [St.put]
   refine K10 _ ?_
   refine ak rfl (fun _ => ?_) (fun h => by cases h)
   have hgx : jy x = true := by
    first
    | (simp [jy, g1]; done)
    | (have g2 : 200 < x.well.length := by (have := of_decide_eq_true hc; omega)
       simp [jy, g2])
   refine yS fun _ K11 => ?_
   refine yR ?_
   refine yA rfl rfl ?_
   refine yN ?_
   dsimp only [St.put]
   refine K11 _ ?_
   refine ax ?_
   refine bp rfl (by constructor) zN zS ?_
   exact vb (by
    have : p.pages.any jy = true := List.any_eq_true.2 ⟨x, ez hx, hgx⟩
    unfold ms; rw [this, Bool.or_true])
  have g1 : ¬ 200 < x.found.length := by have := of_decide_eq_false hs; omega
  refine yF rfl rfl rfl rfl ?_
  refine yL rfl rfl rfl ?_
  refine yM rfl rfl ?_
  refine aa rfl (bl rfl rfl rfl rfl (bn (by assumption)) (Enc.len _)) ?_
  refine yF rfl rfl rfl rfl ?_
  refine yL rfl rfl rfl ?_
  refine aa rfl (bg rfl rfl (List.length_map _)) ?_
  refine aa rfl (gq rfl rfl rfl) ?_
  refine aa rfl (bz rfl rfl (by constructor)) ?_
  refine yN ?_
  dsimp only [St.put]
  refine K10 _ ?_
  refine ak rfl (fun hc => ?_) (fun hc => ?_)
  ·have hgx : jy x = true := by
    first
    | (simp [jy, g1]; done)
    | (have g2 : 200 < x.well.length := by (have := of_decide_eq_true hc; omega)
       simp [jy, g2])
   refine yS fun _ K12 => ?_
   refine yR ?_
   refine yA rfl rfl ?_
   refine yN ?_
   dsimp only [St.put]
   refine K12 _ ?_
   refine ax ?_
   refine bp rfl (by constructor) zN zS ?_
   exact vb (by
    have : p.pages.any jy = true := List.any_eq_true.2 ⟨x, ez hx, hgx⟩
    unfold ms; rw [this, Bool.or_true])
  have hgx : jy x = false := by
   have g2 : ¬ 200 < x.well.length := by (have := of_decide_eq_false hc; omega)
   simp [jy, g1, g2]
  refine av ?_
  refine K9 _ ?_
  refine yR ?_
  refine yM rfl rfl ?_
  refine aa rfl (br rfl rfl rfl (by omega)) ?_
  refine yA rfl rfl ?_
  refine yN ?_
  dsimp only [St.put]
  exact ⟨i + 1, by omega, ⟨by omega, xo (p := fun x : aq => jy x = false) hx hgx hI.2⟩, ⟨⟨rfl, rfl⟩, zF, zB, zN, zX⟩⟩
 replace hc := of_decide_eq_false hc
 have hall := hI.2
 rw [f8 (show p.pages.length ≤ i by omega)] at hall
 refine cr ?_
 refine K5 _ ?_
 refine yS fun _ K13 => ?_
 refine yR ?_
 refine yA rfl rfl ?_
 refine yN ?_
 dsimp only [St.put]
 refine K13 _ ?_
 refine ax ?_
 refine bp rfl (by constructor) zN zS ?_
 exact vb (by
  have : p.pages.any jy = false := List.any_eq_false.2 fun x hx => by rw [hall x hx]; simp
  unfold ms; rw [hst, this]; rfl)
theorem uan (p : am) : Pure Tryd.prog 21 [val p, val p] (.v (.bool true)) := by
 refine dm Tryd.func21 rfl (fun m => .v) fun G nx => ?_
 simp only [Tryd.ntmps21, List.length_cons, List.length_nil, Nat.reduceAdd, Nat.reduceSub]
 refine ct fun hlt => ?_
 dsimp only at hlt
 have hSS : Pure Tryd.prog 46 [eu p.text, eu p.text] (.v (.bool true)) := by
  have := ujh p.text p.text
  rwa [decide_eq_true rfl] at this
 have hSP : ∀ l : List PlaceD, Pure Tryd.prog 14 [lst l, lst l] (.v (.bool true)) := fun l => by
  have := udi l l
  rwa [decide_eq_true rfl] at this
 refine jn 0 (fun hfp => ?_)
 have hf1 := (fit_lst.1 (fit_agg.1 hfp (lst p.firsts) (by simp [cells]))).1
 have hf2 := (fit_lst.1 (fit_agg.1 hfp (lst p.seconds) (by simp [cells]))).1
 have hf3 := (fit_lst.1 (fit_agg.1 hfp (lst p.pages) (by simp [cells]))).1
 refine yS fun _ K1 => ?_
 refine yR ?_
 try dsimp only [St.put]
 refine yB rfl rfl rfl ?_
 try dsimp only [St.put]
 refine yB rfl rfl rfl ?_
 refine yA rfl rfl ?_
 refine yN ?_
 dsimp only [St.put]
 refine K1 _ ?_
 refine yS fun _ K2 => ?_
 refine yS fun _ K3 => ?_
 refine yR ?_
 refine yF rfl rfl rfl rfl ?_
 try dsimp only [St.put]
 refine du rfl (c := eu p.text) (im (cs := cells p) rfl rfl (show 1 ≤ 4 by decide)) ?_
 refine yF rfl rfl rfl rfl ?_
 try dsimp only [St.put]
 refine du rfl (c := eu p.text) (im (cs := cells p) rfl rfl (show 1 ≤ 4 by decide)) ?_
 try dsimp only [St.put]
 refine af rfl (ba rfl rfl rfl (hSS) ?_)
 refine aa rfl (dv rfl rfl) ?_
 refine yM rfl rfl ?_
 refine yF rfl rfl rfl rfl ?_
 refine yL rfl rfl rfl ?_
 refine aa rfl (bg rfl rfl (List.length_map _)) ?_
 refine yF rfl rfl rfl rfl ?_
 refine yL rfl rfl rfl ?_
 refine aa rfl (bg rfl rfl (List.length_map _)) ?_
 refine aa rfl (pk rfl rfl rfl rfl) ?_
 refine aa rfl (bz rfl rfl (by constructor)) ?_
 refine yM rfl rfl ?_
 refine yF rfl rfl rfl rfl ?_
 refine yL rfl rfl rfl ?_
 refine aa rfl (bg rfl rfl (List.length_map _)) ?_
 refine yF rfl rfl rfl rfl ?_
 refine yL rfl rfl rfl ?_
 refine aa rfl (bg rfl rfl (List.length_map _)) ?_
 refine aa rfl (pk rfl rfl rfl rfl) ?_
 refine aa rfl (bz rfl rfl (by constructor)) ?_
 refine yM rfl rfl ?_
 refine yF rfl rfl rfl rfl ?_
 refine yL rfl rfl rfl ?_
 refine aa rfl (bg rfl rfl (List.length_map _)) ?_
 refine yF rfl rfl rfl rfl ?_
 refine yL rfl rfl rfl ?_
 refine aa rfl (bg rfl rfl (List.length_map _)) ?_
 refine aa rfl (pk rfl rfl rfl rfl) ?_
 refine aa rfl (bz rfl rfl (by constructor)) ?_
 refine yN ?_
 dsimp only [St.put]
 refine K3 _ ?_
 refine ak rfl (fun hc => ?_) (fun hc => ?_)
 ·try replace hc := of_decide_eq_true hc
  refine yS fun _ K4 => ?_
  refine yR ?_
  refine yA rfl rfl ?_
  refine yN ?_
  dsimp only [St.put]
  refine K4 _ ?_
  refine ax ?_
  refine bp rfl (by constructor) zN zS ?_
  exact absurd hc (by decide)
 try replace hc := of_decide_eq_false hc
 refine av ?_
 refine K2 _ ?_
 refine yS fun _ K5 => ?_
 refine yS fun _ K6 => ?_
 refine yR ?_
 refine yA rfl rfl ?_
 refine yN ?_
 dsimp only [St.put]
 refine K6 _ ?_
 refine az ?_
 refine cj 10 ?_
 refine zQ ?_
 refine db (G) zX ?_
 dsimp only
 refine c7 (X := Nat) (fun i => i ≤ p.firsts.length) (fun i => p.firsts.length - i) (fun i => [(5, .v (.int .i64 (i : Int)))]) (fun i G' => G') 0 rfl ?_ ?_ (fun _ _ h => h) ?_ ?_ ?_
 ·exact Nat.zero_le _
 ·exact zF
 ·rintro i hI
  exact zL
 ·exact fun _ _ _ _ h => .inl h
 rintro i hI
 dsimp only at hI ⊢
 refine yS fun _ K7 => ?_
 refine yS fun _ K8 => ?_
 refine yR ?_
 refine yM rfl rfl ?_
 refine yF rfl rfl rfl rfl ?_
 refine yL rfl rfl rfl ?_
 refine aa rfl (bg rfl rfl (List.length_map _)) ?_
 refine aa rfl (cn rfl rfl rfl) ?_
 refine yN ?_
 dsimp only [St.put]
 refine K8 _ ?_
 refine ak rfl (fun hc => ?_) (fun hc => ?_)
 ·replace hc := of_decide_eq_true hc
  obtain ⟨x, hx⟩ : ∃ x, p.firsts[i]? = some x := cx (by omega)
  refine av ?_
  refine K7 _ ?_
  refine yS fun _ K9 => ?_
  refine az ?_
  refine yS fun _ K10 => ?_
  refine f4 [(0, none), (1, none), (2, none), (3, none), (4, none), (5, none), (6, none), (7, none), (8, none), (9, none), (10, none)] (fun i => [].contains i) (fun i => [].contains i) (fun i => [0, 2, 3, 5, 7, 8, 10].contains i) [] (by kernel_rfl) (by kernel_rfl) ?_
  refine ae rfl rfl rfl rfl (cb rfl rfl rfl) ?_
  try dsimp only [St.put]
  refine aw rfl rfl rfl rfl (bv rfl rfl) ?_
  refine xM rfl rfl rfl rfl rfl ?_
  try dsimp only [St.put]
  refine ae rfl rfl rfl rfl (bl rfl rfl rfl rfl (bn (by assumption)) (Enc.len _)) ?_
  try dsimp only [St.put]
  refine aw rfl rfl rfl rfl (d9 rfl rfl (Enc.len _)) ?_
  refine ae rfl rfl rfl rfl (cb rfl rfl rfl) ?_
  try dsimp only [St.put]
  refine aw rfl rfl rfl rfl (bv rfl rfl) ?_
  refine xM rfl rfl rfl rfl rfl ?_
  try dsimp only [St.put]
  refine ae rfl rfl rfl rfl (bl rfl rfl rfl rfl (bn (by assumption)) (Enc.len _)) ?_
  try dsimp only [St.put]
  refine aw rfl rfl rfl rfl (d9 rfl rfl (Enc.len _)) ?_
  refine ae rfl rfl rfl rfl (xj rfl rfl rfl) ?_
  refine bq ?_
  dsimp only [St.put]
  refine K10 _ ?_
  refine ak rfl (fun hc => ?_) (fun hc => ?_)
  ·have hF : False := ia hc rfl
   refine yS fun _ K11 => ?_
   refine yR ?_
   refine yA rfl rfl ?_
   refine yN ?_
   dsimp only [St.put]
   refine K11 _ ?_
   refine ax ?_
   refine bp rfl (by constructor) zN zS ?_
   exact hF.elim
  try replace hc := of_decide_eq_false hc
  refine av ?_
  refine K9 _ ?_
  refine yR ?_
  refine yM rfl rfl ?_
  refine aa rfl (br rfl rfl rfl (by omega)) ?_
  refine yA rfl rfl ?_
  refine yN ?_
  dsimp only [St.put]
  exact ⟨i + 1, by omega, by omega, ⟨⟨rfl, rfl⟩, zF, zB, zN, zX⟩⟩
 try replace hc := of_decide_eq_false hc
 refine cr ?_
 refine K5 _ ?_
 refine yS fun _ K12 => ?_
 refine yS fun _ K13 => ?_
 refine yR ?_
 refine yA rfl rfl ?_
 refine yN ?_
 dsimp only [St.put]
 refine K13 _ ?_
 refine az ?_
 refine cj 10 ?_
 refine zQ ?_
 refine db (G) zX ?_
 dsimp only
 refine c7 (X := Nat) (fun i => i ≤ p.seconds.length) (fun i => p.seconds.length - i) (fun i => [(6, .v (.int .i64 (i : Int)))]) (fun i G' => G') 0 rfl ?_ ?_ (fun _ _ h => h) ?_ ?_ ?_
 ·exact Nat.zero_le _
 ·exact zF
 ·rintro i hI
  exact zL
 ·exact fun _ _ _ _ h => .inl h
 rintro i hI
 dsimp only at hI ⊢
 refine yS fun _ K14 => ?_
 refine yS fun _ K15 => ?_
 refine yR ?_
 refine yM rfl rfl ?_
 refine yF rfl rfl rfl rfl ?_
 refine yL rfl rfl rfl ?_
 refine aa rfl (bg rfl rfl (List.length_map _)) ?_
 refine aa rfl (cn rfl rfl rfl) ?_
 refine yN ?_
 dsimp only [St.put]
 refine K15 _ ?_
 refine ak rfl (fun hc => ?_) (fun hc => ?_)
 ·replace hc := of_decide_eq_true hc
  obtain ⟨x, hx⟩ : ∃ x, p.seconds[i]? = some x := cx (by omega)
  refine av ?_
  refine K14 _ ?_
  refine yS fun _ K16 => ?_
  refine az ?_
  refine yS fun _ K17 => ?_
  refine f4 [(0, none), (1, none), (2, none), (3, none), (4, none), (5, none), (6, none), (7, none), (8, none), (9, none), (10, none)] (fun i => [].contains i) (fun i => [].contains i) (fun i => [0, 2, 3, 5, 7, 8, 10].contains i) [] (by kernel_rfl) (by kernel_rfl) ?_
  refine ae rfl rfl rfl rfl (cb rfl rfl rfl) ?_
  try dsimp only [St.put]
  refine aw rfl rfl rfl rfl (bv rfl rfl) ?_
  refine xM rfl rfl rfl rfl rfl ?_
  try dsimp only [St.put]
  refine ae rfl rfl rfl rfl (bl rfl rfl rfl rfl (bn (by assumption)) (Enc.len _)) ?_
  try dsimp only [St.put]
  refine aw rfl rfl rfl rfl (d9 rfl rfl (Enc.len _)) ?_
  refine ae rfl rfl rfl rfl (cb rfl rfl rfl) ?_
  try dsimp only [St.put]
  refine aw rfl rfl rfl rfl (bv rfl rfl) ?_
  refine xM rfl rfl rfl rfl rfl ?_
  try dsimp only [St.put]
  refine ae rfl rfl rfl rfl (bl rfl rfl rfl rfl (bn (by assumption)) (Enc.len _)) ?_
  try dsimp only [St.put]
  refine aw rfl rfl rfl rfl (d9 rfl rfl (Enc.len _)) ?_
  refine ae rfl rfl rfl rfl (xj rfl rfl rfl) ?_
  refine bq ?_
  dsimp only [St.put]
  refine K17 _ ?_
  refine ak rfl (fun hc => ?_) (fun hc => ?_)
  ·have hF : False := ia hc rfl
   refine yS fun _ K18 => ?_
   refine yR ?_
   refine yA rfl rfl ?_
   refine yN ?_
   dsimp only [St.put]
   refine K18 _ ?_
   refine ax ?_
   refine bp rfl (by constructor) zN zS ?_
   exact hF.elim
  try replace hc := of_decide_eq_false hc
  refine av ?_
  refine K16 _ ?_
  refine yR ?_
  refine yM rfl rfl ?_
  refine aa rfl (br rfl rfl rfl (by omega)) ?_
  refine yA rfl rfl ?_
  refine yN ?_
  dsimp only [St.put]
  exact ⟨i + 1, by omega, by omega, ⟨⟨rfl, rfl⟩, zF, zB, zN, zX⟩⟩
 try replace hc := of_decide_eq_false hc
 refine cr ?_
 refine K12 _ ?_
 refine yS fun _ K19 => ?_
 refine yS fun _ K20 => ?_
 refine yR ?_
 refine yA rfl rfl ?_
 refine yN ?_
 dsimp only [St.put]
 refine K20 _ ?_
 refine az ?_
 refine cj 10 ?_
 refine zQ ?_
 refine db (G) zX ?_
 dsimp only
 refine c7 (X := Nat) (fun i => i ≤ p.pages.length) (fun i => p.pages.length - i) (fun i => [(7, .v (.int .i64 (i : Int))), (8, .any), (9, .any)]) (fun i G' => G') 0 rfl ?_ ?_ (fun _ _ h => h) ?_ ?_ ?_
 ·exact Nat.zero_le _
 ·exact zF
 ·rintro i hI
  exact zL
 ·exact fun _ _ _ _ h => .inl h
 rintro i hI
 dsimp only at hI ⊢
 refine yS fun _ K21 => ?_
 refine yS fun _ K22 => ?_
 refine yR ?_
 refine yM rfl rfl ?_
 refine yF rfl rfl rfl rfl ?_
 refine yL rfl rfl rfl ?_
 refine aa rfl (bg rfl rfl (List.length_map _)) ?_
 refine aa rfl (cn rfl rfl rfl) ?_
 refine yN ?_
 dsimp only [St.put]
 refine K22 _ ?_
 refine ak rfl (fun hc => ?_) (fun hc => ?_)
 ·replace hc := of_decide_eq_true hc
  obtain ⟨x, hx⟩ : ∃ x, p.pages[i]? = some x := cx (by omega)
  refine av ?_
  refine K21 _ ?_
  refine yS fun _ K23 => ?_
  refine az ?_
  refine yS fun _ K24 => ?_
  refine f4 [(0, none), (1, none), (2, none), (3, none), (4, none), (5, none), (6, none), (7, none), (8, none), (9, none), (10, some 11), (12, none), (13, none)] (fun i => [13].contains i) (fun i => [10, 11, 12, 13].contains i) (fun i => [0, 2, 3, 5, 7, 8].contains i) [] (by kernel_rfl) (by kernel_rfl) ?_
  refine ae rfl rfl rfl rfl (cb rfl rfl rfl) ?_
  try dsimp only [St.put]
  refine aw rfl rfl rfl rfl (bv rfl rfl) ?_
  refine xM rfl rfl rfl rfl rfl ?_
  try dsimp only [St.put]
  refine ae rfl rfl rfl rfl (bl rfl rfl rfl rfl (bn (by assumption)) (Enc.len _)) ?_
  try dsimp only [St.put]
  refine aw rfl rfl rfl rfl (d9 rfl rfl (Enc.len _)) ?_
  refine ae rfl rfl rfl rfl (cb rfl rfl rfl) ?_
  try dsimp only [St.put]
  refine aw rfl rfl rfl rfl (bv rfl rfl) ?_
  refine xM rfl rfl rfl rfl rfl ?_
  try dsimp only [St.put]
  refine ae rfl rfl rfl rfl (bl rfl rfl rfl rfl (bn (by assumption)) (Enc.len _)) ?_
  try dsimp only [St.put]
  refine aw rfl rfl rfl rfl (d9 rfl rfl (Enc.len _)) ?_
  refine ij ?_
  refine ude rfl rfl rfl rfl rfl rfl rfl rfl (by decide) (by simp) ?_
  try dsimp only [St.put]
  refine g8 rfl rfl rfl (dt rfl rfl rfl zG rfl rfl (by rfl) ⟨zD, ?_⟩)
  try dsimp only [St.put]
  refine gt rfl rfl rfl rfl (dt rfl rfl rfl zG rfl rfl (by rfl) ?_)
  refine ii ?_
  dsimp only [St.put]
  refine K24 _ ?_
  refine eo (i := 8) rfl zG zC ?_
  refine eo (i := 9) rfl zG zC ?_
  dsimp only
  refine yS fun _ K25 => ?_
  refine yR ?_
  refine yF rfl rfl rfl rfl ?_
  refine yL rfl rfl rfl ?_
  refine yF rfl rfl rfl rfl ?_
  refine yL rfl rfl rfl ?_
  refine aa rfl (pk rfl rfl rfl rfl) ?_
  refine yM rfl rfl ?_
  refine yF rfl rfl rfl rfl ?_
  refine yL rfl rfl rfl ?_
  refine yF rfl rfl rfl rfl ?_
  refine yL rfl rfl rfl ?_
  refine aa rfl (pk rfl rfl rfl rfl) ?_
  refine aa rfl (bz rfl rfl (by constructor)) ?_
  refine yM rfl rfl ?_
  refine yF rfl rfl rfl rfl ?_
  refine yL rfl rfl rfl ?_
  refine yF rfl rfl rfl rfl ?_
  refine yL rfl rfl rfl ?_
  refine aa rfl (pk rfl rfl rfl rfl) ?_
  refine aa rfl (bz rfl rfl (by constructor)) ?_
  refine yM rfl rfl ?_
  refine yF rfl rfl rfl rfl ?_
  refine yL rfl rfl rfl ?_
  refine yF rfl rfl rfl rfl ?_
  refine yL rfl rfl rfl ?_
  refine aa rfl (pk rfl rfl rfl rfl) ?_
  refine aa rfl (bz rfl rfl (by constructor)) ?_
  refine yM rfl rfl ?_
  refine yF rfl rfl rfl rfl ?_
  refine yL rfl rfl rfl ?_
  refine yF rfl rfl rfl rfl ?_
  refine yL rfl rfl rfl ?_
  try dsimp only [St.put]
  refine af rfl (ba rfl rfl rfl (hSP _) ?_)
  refine aa rfl (dv rfl rfl) ?_
  refine aa rfl (bz rfl rfl (by constructor)) ?_
  refine yM rfl rfl ?_
  refine yF rfl rfl rfl rfl ?_
  refine yL rfl rfl rfl ?_
  refine yF rfl rfl rfl rfl ?_
  refine yL rfl rfl rfl ?_
  try dsimp only [St.put]
  refine af rfl (ba rfl rfl rfl (hSP _) ?_)
  refine aa rfl (dv rfl rfl) ?_
  refine aa rfl (bz rfl rfl (by constructor)) ?_
  refine yN ?_
  dsimp only [St.put]
  refine K25 _ ?_
  refine ak rfl (fun hc => ?_) (fun hc => ?_)
  ·try replace hc := of_decide_eq_true hc
   refine yS fun _ K26 => ?_
   refine yR ?_
   refine yA rfl rfl ?_
   refine yN ?_
   dsimp only [St.put]
   refine K26 _ ?_
   refine ax ?_
   refine bp rfl (by constructor) zN zS ?_
   exact absurd hc (by decide)
  try replace hc := of_decide_eq_false hc
  refine av ?_
  refine K23 _ ?_
  refine yR ?_
  refine yM rfl rfl ?_
  refine aa rfl (br rfl rfl rfl (by omega)) ?_
  refine yA rfl rfl ?_
  refine yN ?_
  dsimp only [St.put]
  exact ⟨i + 1, by omega, by omega, ⟨⟨rfl, rfl⟩, zF, zB, zN, zX⟩⟩
 try replace hc := of_decide_eq_false hc
 refine cr ?_
 refine K19 _ ?_
 refine yS fun _ K27 => ?_
 refine yR ?_
 refine yA rfl rfl ?_
 refine yN ?_
 dsimp only [St.put]
 refine K27 _ ?_
 refine ax ?_
 refine bp rfl (by constructor) zN zS ?_
 rfl
end Go.Proofs.YtgffhbbcpgdjjaaDoor
