/-
  What the walks through the program rest on: values, states, steps, calls (ReAsk, UcOpen, UdFound, PsExamples, RhProves, RiWithout, AbFW, RfLefts, RjRests, QoRef, RkTotal, RgSets, QpRef, QqRef, RlChief, SaAlive, QsTwin, QsRef, OpenL, OpenW, OpenS, OpenU, UeTells, Trod).
-/
import Derived.Test.YtgffhbbcpgdjjaaDoorPartD
import Derived.Test.YtgffhbbcpgdjjaaDoorPartC
import Derived.Test.YtgffhbbcpgdjjaaDoorPartB
import Derived.Test.YtgffhbbcpgdjjaaDoorRows
import Derived.LaidMore
import Derived.RowKitVeiled
import Derived.Carry
namespace Go.AB
open Go Go.RowKit
open Go.AB.Enc (cells)
open Go.PB (ay aj PlaceD bh bj bi bx aq am cv co dq dp)
def pgC (p : am) (n : Int) : C := bif decide (eg p n = 0) then ow p else .v (.pointer none)
theorem uf0 (m : Nat) (p : am) (n : Int) : C.low m (pgC p n) := by
 unfold pgC
 cases decide (eg p n = 0)
 ·exact .v
 exact ubd m p
theorem uax {p : am} {n : Int} (h : eg p n ≠ 0) : pgC p n = .v (.pointer none) := by unfold pgC; rw [decide_eq_false h]; rfl
theorem ug {p : am} {n : Int} (h : eg p n = 0) : pgC p n = .elem [lst p.text, lst p.firsts, lst p.seconds, lst p.pages, lst (p.pages.map fun x => (dw p.text x : Int)), lst (p.pages.map (ca p.text)), lst (p.pages.map (bf p.text))] := by
 unfold pgC
 rw [decide_eq_true h, cond_true, xd (m4 h).1]
theorem uo {α β : Type} {l : List α} {k : Nat} {x : α} (f : α → β) (h : l[k]? = some x) : (l.map f)[k]? = some (f x) := by rw [List.getElem?_map, h]; rfl
end Go.AB
namespace Go.Proofs.YtgffhbbcpgdjjaaDoor
set_option maxRecDepth 10000
open Go Go.RowKit Go.AB
open Go.AB.Enc (cells)
open Go.PB (ay aj PlaceD bh bj bi bx aq am cv co dq dp)
theorem ue2 (m : Nat) (b : Bool) : ∀ c ∈ m9 b, C.low m c := fun c hc => by
 simp only [List.mem_cons, List.not_mem_nil, or_false] at hc
 rcases hc with rfl | rfl | rfl <;> exact .fn (by simp)
theorem ua3 (n : Nat) (p : am) : mg n j8 Tryd.prog 12 [val p] (.v (.int .i64 (em p))) := fun G nx hF hnx => by
 refine kp (G) (nx) Tryd.func12 rfl (.v) zN (fun hlt => zH) ?_
 simp only [Tryd.ntmps12, List.length_cons, List.length_nil, Nat.reduceAdd, Nat.reduceSub]
 refine ct fun hlt => ?_
 dsimp only at hlt
 refine yS fun _ K1 => ?_
 refine yR ?_
 try dsimp only [St.put]
 refine yB rfl rfl rfl ?_
 refine yA rfl rfl ?_
 refine yN ?_
 dsimp only [St.put]
 refine K1 _ ?_
 refine yS fun _ K2 => ?_
 refine yR ?_
 refine yE rfl rfl rfl ?_
 try dsimp only [St.put]
 refine af rfl (jt rfl rfl rfl (w9 n p) zG (by dsimp only [St.put]; omega) ?_)
 refine yM rfl rfl ?_
 refine yX rfl rfl rfl rfl ?_
 refine yX rfl rfl rfl rfl ?_
 refine yA rfl rfl ?_
 refine yA rfl rfl ?_
 refine yN ?_
 dsimp only [St.put]
 refine K2 _ ?_
 refine yS fun _ K3 => ?_
 refine yR ?_
 refine yM rfl rfl ?_
 refine yA rfl rfl ?_
 refine yN ?_
 dsimp only [St.put]
 refine K3 _ ?_
 refine ax ?_
 refine bp rfl (by constructor) zN zS ?_
 rfl
theorem ui (n : Nat) (p : am) (m : Int) : mg n j8 Tryd.prog 35 [val p, .v (.int .i64 m)] (.tup [pgC p m, .v (.int .i64 (eg p m))]) := fun G nx hF hnx => by
 refine kp (G) (nx) Tryd.func35 rfl (.tup (bk (uf0 _ _ _) (bk .v cg))) zN (fun hlt => zH) ?_
 simp only [Tryd.ntmps35, List.length_cons, List.length_nil, Nat.reduceAdd, Nat.reduceSub]
 refine ct fun hlt => ?_
 dsimp only at hlt
 refine yS fun _ K1 => ?_
 refine yR ?_
 try dsimp only [St.put]
 refine yB rfl rfl rfl ?_
 refine yA rfl rfl ?_
 refine yA rfl rfl ?_
 refine yN ?_
 dsimp only [St.put]
 refine K1 _ ?_
 refine yS fun _ K2 => ?_
 refine yR ?_
 refine yE rfl rfl rfl ?_
 try dsimp only [St.put]
 refine af rfl (jt rfl rfl rfl (w9 n p) zG (by dsimp only [St.put]; omega) ?_)
 refine yM rfl rfl ?_
 refine yX rfl rfl rfl rfl ?_
 refine yX rfl rfl rfl rfl ?_
 refine yA rfl rfl ?_
 refine yA rfl rfl ?_
 refine yN ?_
 dsimp only [St.put]
 refine K2 _ ?_
 refine yS fun _ K3 => ?_
 refine yS fun _ K4 => ?_
 refine yR ?_
 refine yM rfl rfl ?_
 refine aa rfl (fj rfl rfl rfl) ?_
 refine yN ?_
 dsimp only [St.put]
 refine K4 _ ?_
 refine ak rfl (fun hc => ?_) (fun hc => ?_)
 ·have h0 : em p ≠ 0 := ia hc
  have hE : eg p m = em p := by simp [eg, h0]
  refine yS fun _ K5 => ?_
  refine yR ?_
  refine yM rfl rfl ?_
  refine yA rfl rfl ?_
  refine yA rfl rfl ?_
  refine yN ?_
  dsimp only [St.put]
  refine K5 _ ?_
  refine ax ?_
  refine gx rfl (by constructor) (by constructor) zN zS ?_ ?_
  ·rw [uax (by rw [hE]; exact h0)]
  rw [hE]
 have h0 : em p = 0 := gw hc
 have hnp := (mc h0).1.np
 refine av ?_
 refine K3 _ ?_
 refine yS fun _ K6 => ?_
 refine yS fun _ K7 => ?_
 refine yR ?_
 refine yF rfl rfl rfl rfl ?_
 refine yL rfl rfl rfl ?_
 refine aa rfl (bg rfl rfl (List.length_map _)) ?_
 refine aa rfl (gm rfl rfl rfl (by omega)) ?_
 refine yM rfl rfl ?_
 try dsimp only [St.put]
 refine af rfl (ef rfl rfl rfl (by decide) (by decide) zR (by decide) ?_)
 try dsimp only [St.put]
 refine af rfl (ba rfl rfl rfl (jh _ _ [_]) ?_)
 refine aa rfl (dv rfl rfl) ?_
 refine yN ?_
 dsimp only [St.put]
 refine K7 _ ?_
 refine ak rfl (fun hc => ?_) (fun hc => ?_)
 ·have h1 : inB m 0 ((p.pages.length : Int) - 1) = false := by rw [er] at hc; simpa using hc
  have hE : eg p m = 2 := by simp [eg, h0, h1]
  refine yS fun _ K8 => ?_
  refine yR ?_
  refine yA rfl rfl ?_
  refine yA rfl rfl ?_
  refine yN ?_
  dsimp only [St.put]
  refine K8 _ ?_
  refine ax ?_
  refine gx rfl (by constructor) (by constructor) zN zS ?_ ?_
  ·rw [uax (by rw [hE]; decide)]
  rw [hE]
 have h1 : inB m 0 ((p.pages.length : Int) - 1) = true := by rw [er] at hc; simpa using hc
 have hE : eg p m = 0 := by simp [eg, h0, h1]
 refine av ?_
 refine K6 _ ?_
 refine yS fun _ K9 => ?_
 refine yR ?_
 refine yM rfl rfl ?_
 refine yA rfl rfl ?_
 refine yA rfl rfl ?_
 refine yN ?_
 dsimp only [St.put]
 refine K9 _ ?_
 refine ax ?_
 refine gx rfl (by constructor) (by constructor) zN zS ?_ ?_
 ·unfold pgC; rw [decide_eq_true hE]; rfl
 rw [hE]
theorem uf5 (n : Nat) (p : am) (m : Int) : mg n j8 Tryd.prog 8 [val p, .v (.int .i64 m)] (.tup [.v (.int .i64 (m7 p m)), .v (.int .i64 (eg p m))]) := fun G nx hF hnx => by
 refine kp (G) (nx) Tryd.func8 rfl (.tup (bk .v (bk .v cg))) zN (fun hlt => zH) ?_
 simp only [Tryd.ntmps8, List.length_cons, List.length_nil, Nat.reduceAdd, Nat.reduceSub]
 refine ct fun hlt => ?_
 dsimp only at hlt
 refine yS fun _ K1 => ?_
 refine yR ?_
 try dsimp only [St.put]
 refine yB rfl rfl rfl ?_
 refine yA rfl rfl ?_
 refine yA rfl rfl ?_
 refine yN ?_
 dsimp only [St.put]
 refine K1 _ ?_
 refine yS fun _ K2 => ?_
 refine yR ?_
 refine yE rfl rfl rfl ?_
 refine yM rfl rfl ?_
 try dsimp only [St.put]
 refine af rfl (jt rfl rfl rfl (ui n p m) zG (by dsimp only [St.put]; omega) ?_)
 refine yM rfl rfl ?_
 refine yX rfl rfl rfl rfl ?_
 refine yX rfl rfl rfl rfl ?_
 refine yA rfl rfl ?_
 refine yA rfl rfl ?_
 refine yN ?_
 dsimp only [St.put]
 refine K2 _ ?_
 refine yS fun _ K3 => ?_
 refine yS fun _ K4 => ?_
 refine yR ?_
 refine yM rfl rfl ?_
 refine aa rfl (fj rfl rfl rfl) ?_
 refine yN ?_
 dsimp only [St.put]
 refine K4 _ ?_
 refine ak rfl (fun hc => ?_) (fun hc => ?_)
 ·have h0 : eg p m ≠ 0 := ia hc
  have hV : m7 p m = 0 := by unfold m7; rw [nz h0]
  refine yS fun _ K5 => ?_
  refine yR ?_
  refine yM rfl rfl ?_
  refine yA rfl rfl ?_
  refine yA rfl rfl ?_
  refine yN ?_
  dsimp only [St.put]
  refine K5 _ ?_
  refine ax ?_
  refine gx rfl (by constructor) (by constructor) zN zS ?_ ?_
  ·exact vi hV.symm
  rfl
 have h0 : eg p m = 0 := gw hc
 obtain ⟨hc0, j, x, rfl, hx, hpo⟩ := m4 h0
 have hw := uo (fun x => (dw p.text x : Int)) hx
 have hV : m7 p (j : Int) = (dw p.text x : Int) := by unfold m7; rw [h0, hpo]; rfl
 rw [ug h0]
 refine av ?_
 refine K3 _ ?_
 refine yS fun _ K6 => ?_
 refine yR ?_
 refine yM rfl rfl ?_
 refine aa rfl (ni rfl rfl) ?_
 refine yF rfl rfl rfl rfl ?_
 refine yL rfl rfl rfl ?_
 refine yM rfl rfl ?_
 refine aa rfl (bl rfl rfl rfl rfl (bn (by assumption)) (Enc.len _)) ?_
 refine yL rfl rfl rfl ?_
 refine yA rfl rfl ?_
 refine yA rfl rfl ?_
 refine yN ?_
 dsimp only [St.put]
 refine K6 _ ?_
 refine ax ?_
 refine gx rfl (by constructor) (by constructor) zN zS ?_ ?_
 ·exact vi hV.symm
 exact vi h0.symm
theorem uf8 (n : Nat) (p : am) (m : Int) : mg n j8 Tryd.prog 10 [val p, .v (.int .i64 m)] (.tup [lst (kh p m), .v (.int .i64 (eg p m))]) := fun G nx hF hnx => by
 refine kp (G) (nx) Tryd.func10 rfl (.tup (bk (ar _ _) (bk .v cg))) zN (fun hlt => zH) ?_
 simp only [Tryd.ntmps10, List.length_cons, List.length_nil, Nat.reduceAdd, Nat.reduceSub]
 refine ct fun hlt => ?_
 dsimp only at hlt
 refine yS fun _ K1 => ?_
 refine yR ?_
 try dsimp only [St.put]
 refine yB rfl rfl rfl ?_
 refine yA rfl rfl ?_
 refine yA rfl rfl ?_
 refine yN ?_
 dsimp only [St.put]
 refine K1 _ ?_
 refine yS fun _ K2 => ?_
 refine yR ?_
 refine yE rfl rfl rfl ?_
 refine yM rfl rfl ?_
 try dsimp only [St.put]
 refine af rfl (jt rfl rfl rfl (ui n p m) zG (by dsimp only [St.put]; omega) ?_)
 refine yM rfl rfl ?_
 refine yX rfl rfl rfl rfl ?_
 refine yX rfl rfl rfl rfl ?_
 refine yA rfl rfl ?_
 refine yA rfl rfl ?_
 refine yN ?_
 dsimp only [St.put]
 refine K2 _ ?_
 refine yS fun _ K3 => ?_
 refine yS fun _ K4 => ?_
 refine yR ?_
 refine yM rfl rfl ?_
 refine aa rfl (fj rfl rfl rfl) ?_
 refine yN ?_
 dsimp only [St.put]
 refine K4 _ ?_
 refine ak rfl (fun hc => ?_) (fun hc => ?_)
 ·have h0 : eg p m ≠ 0 := ia hc
  have hV : kh p m = [] := by unfold kh; rw [nz h0]
  refine yS fun _ K5 => ?_
  refine yR ?_
  refine yM rfl rfl ?_
  refine yA rfl rfl ?_
  refine yA rfl rfl ?_
  refine yN ?_
  dsimp only [St.put]
  refine K5 _ ?_
  refine ax ?_
  refine iv rfl (fl (by constructor)) (fl (by constructor)) zN zS ?_ ?_
  ·rw [hV]; exact zW
  exact zW
 have h0 : eg p m = 0 := gw hc
 obtain ⟨hc0, j, x, rfl, hx, hpo⟩ := m4 h0
 have hw := uo (ca p.text) hx
 have hV : kh p (j : Int) = ca p.text x := by unfold kh; rw [h0, hpo]; rfl
 rw [ug h0]
 refine av ?_
 refine K3 _ ?_
 refine yS fun _ K6 => ?_
 refine yR ?_
 refine yM rfl rfl ?_
 refine aa rfl (ni rfl rfl) ?_
 refine yF rfl rfl rfl rfl ?_
 refine yL rfl rfl rfl ?_
 refine yM rfl rfl ?_
 refine aa rfl (bl rfl rfl rfl rfl (bn (by assumption)) (Enc.len _)) ?_
 refine yL rfl rfl rfl ?_
 refine yA rfl rfl ?_
 refine yA rfl rfl ?_
 refine yN ?_
 dsimp only [St.put]
 refine K6 _ ?_
 refine ax ?_
 refine iv rfl (fl (by constructor)) (fl (by constructor)) zN zS ?_ ?_
 ·rw [hV]; exact zW
 rw [h0]; exact zW
theorem uf9 (n : Nat) (p : am) (m : Int) : mg n j8 Tryd.prog 15 [val p, .v (.int .i64 m)] (.tup [lst (kk p m), .v (.int .i64 (eg p m))]) := fun G nx hF hnx => by
 refine kp (G) (nx) Tryd.func15 rfl (.tup (bk (ar _ _) (bk .v cg))) zN (fun hlt => zH) ?_
 simp only [Tryd.ntmps15, List.length_cons, List.length_nil, Nat.reduceAdd, Nat.reduceSub]
 refine ct fun hlt => ?_
 dsimp only at hlt
 refine yS fun _ K1 => ?_
 refine yR ?_
 try dsimp only [St.put]
 refine yB rfl rfl rfl ?_
 refine yA rfl rfl ?_
 refine yA rfl rfl ?_
 refine yN ?_
 dsimp only [St.put]
 refine K1 _ ?_
 refine yS fun _ K2 => ?_
 refine yR ?_
 refine yE rfl rfl rfl ?_
 refine yM rfl rfl ?_
 try dsimp only [St.put]
 refine af rfl (jt rfl rfl rfl (ui n p m) zG (by dsimp only [St.put]; omega) ?_)
 refine yM rfl rfl ?_
 refine yX rfl rfl rfl rfl ?_
 refine yX rfl rfl rfl rfl ?_
 refine yA rfl rfl ?_
 refine yA rfl rfl ?_
 refine yN ?_
 dsimp only [St.put]
 refine K2 _ ?_
 refine yS fun _ K3 => ?_
 refine yS fun _ K4 => ?_
 refine yR ?_
 refine yM rfl rfl ?_
 refine aa rfl (fj rfl rfl rfl) ?_
 refine yN ?_
 dsimp only [St.put]
 refine K4 _ ?_
 refine ak rfl (fun hc => ?_) (fun hc => ?_)
 ·have h0 : eg p m ≠ 0 := ia hc
  have hV : kk p m = [] := by unfold kk; rw [nz h0]
  refine yS fun _ K5 => ?_
  refine yR ?_
  refine yM rfl rfl ?_
  refine yA rfl rfl ?_
  refine yA rfl rfl ?_
  refine yN ?_
  dsimp only [St.put]
  refine K5 _ ?_
  refine ax ?_
  refine iv rfl (fl (by constructor)) (fl (by constructor)) zN zS ?_ ?_
  ·rw [hV]; exact zW
  exact zW
 have h0 : eg p m = 0 := gw hc
 obtain ⟨hc0, j, x, rfl, hx, hpo⟩ := m4 h0
 have hw := uo (bf p.text) hx
 have hV : kk p (j : Int) = bf p.text x := by unfold kk; rw [h0, hpo]; rfl
 rw [ug h0]
 refine av ?_
 refine K3 _ ?_
 refine yS fun _ K6 => ?_
 refine yR ?_
 refine yM rfl rfl ?_
 refine aa rfl (ni rfl rfl) ?_
 refine yF rfl rfl rfl rfl ?_
 refine yL rfl rfl rfl ?_
 refine yM rfl rfl ?_
 refine aa rfl (bl rfl rfl rfl rfl (bn (by assumption)) (Enc.len _)) ?_
 refine yL rfl rfl rfl ?_
 refine yA rfl rfl ?_
 refine yA rfl rfl ?_
 refine yN ?_
 dsimp only [St.put]
 refine K6 _ ?_
 refine ax ?_
 refine iv rfl (fl (by constructor)) (fl (by constructor)) zN zS ?_ ?_
 ·rw [hV]; exact zW
 rw [h0]; exact zW
theorem ua4 (n : Nat) (p : am) (b : Bool) (m : Int) : mg n j8 Tryd.prog 17 [val p, .v (.bool b), .v (.int .i64 m)] (.tup [.v (.int .i64 (mz p b m)), .v (.int .i64 (jx p b m))]) := fun G nx hF hnx => by
 refine kp (G) (nx) Tryd.func17 rfl (.tup (bk .v (bk .v cg))) zN (fun hlt => zH) ?_
 simp only [Tryd.ntmps17, List.length_cons, List.length_nil, Nat.reduceAdd, Nat.reduceSub]
 refine ct fun hlt => ?_
 dsimp only at hlt
 refine yS fun _ K1 => ?_
 refine yR ?_
 try dsimp only [St.put]
 refine yB rfl rfl rfl ?_
 refine yA rfl rfl ?_
 refine yA rfl rfl ?_
 refine yN ?_
 dsimp only [St.put]
 refine K1 _ ?_
 refine yS fun _ K2 => ?_
 refine yR ?_
 refine yE rfl rfl rfl ?_
 try dsimp only [St.put]
 refine af rfl (jt rfl rfl rfl (w9 n p) zG (by dsimp only [St.put]; omega) ?_)
 refine yM rfl rfl ?_
 refine yX rfl rfl rfl rfl ?_
 refine yX rfl rfl rfl rfl ?_
 refine yA rfl rfl ?_
 refine yA rfl rfl ?_
 refine yN ?_
 dsimp only [St.put]
 refine K2 _ ?_
 refine yS fun _ K3 => ?_
 refine yS fun _ K4 => ?_
 refine yR ?_
 refine yM rfl rfl ?_
 refine aa rfl (fj rfl rfl rfl) ?_
 refine yN ?_
 dsimp only [St.put]
 refine K4 _ ?_
 refine ak rfl (fun hc => ?_) (fun hc => ?_)
 ·have h0 : em p ≠ 0 := ia hc
  have hE : jx p b m = em p := by simp [jx, h0]
  refine yS fun _ K5 => ?_
  refine yR ?_
  refine yM rfl rfl ?_
  refine yA rfl rfl ?_
  refine yA rfl rfl ?_
  refine yN ?_
  dsimp only [St.put]
  refine K5 _ ?_
  refine ax ?_
  refine gx rfl (by constructor) (by constructor) zN zS ?_ ?_
  ·exact vi (by simp [mz, atE, hE, h0])
  exact vi hE.symm
 have h0 : em p = 0 := gw hc
 obtain ⟨hok, _⟩ := mc h0
 have hn1 := hok.nf
 have hn2 := hok.ns
 have hsl : (cz p b).length ≤ 3 := by
  cases b
  ·exact hn1
  exact hn2
 rw [xd h0]
 refine av ?_
 refine K3 _ ?_
 refine yS fun _ K6 => ?_
 refine yR ?_
 try dsimp only [St.put]
 refine aa rfl (ubo (j := n) (k := 0) (m := 2) (sz := 3) rfl rfl zG rfl rfl (by decide) rfl) ?_
 try dsimp only [St.put]
 refine du rfl (c := .agg (m9 false)) (im (cs := sidL) rfl rfl (show 3 ≤ 6 by decide)) ?_
 try dsimp only [St.put]
 refine af rfl (eh rfl ?_)
 try dsimp only [St.put]
 refine af rfl (dt rfl rfl rfl zG rfl rfl (by rfl) ?_)
 refine yN ?_
 dsimp only [St.put]
 refine K6 _ ?_
 refine cj 13 ?_
 refine zQ ?_
 refine ix (X := Nat) (fun wv => True) (fun wv => []) (fun wv G' => ai G nx (.box wv (m9 b))) rfl ?_ ?_ ?_ ?_
 ·rintro wv hI
  exact zL
 ·rintro wv hI
  exact (by (repeat' (refine et ?_ (by (try dsimp only); omega) ?_)); all_goals (first | exact fq zS | (repeat' (first | exact trivial | refine ⟨?_, ?_⟩ | exact .v | exact .any | refine .elem ?_ | exact ar _ _ | exact c6 _ _ | exact cw _ _ | exact cy _ (by (try dsimp only); omega) | exact .box (by (try dsimp only); omega) | exact c5 | exact cg | exact ue2 _ _ | refine c4 ?_ ?_ | exact .arr (by (try dsimp only); omega) | exact .own (by (try dsimp only); omega) | exact .map (by (try dsimp only); omega) | exact cc _ | refine bk ?_ ?_ | exact ar _ _))))
 ·refine yS fun _ K8 => ?_
  refine yR ?_
  refine yM rfl rfl ?_
  refine yN ?_
  dsimp only [St.put]
  refine K8 _ ?_
  refine ak rfl (fun hc => ?_) (fun hc => ?_)
  ·obtain rfl : b = true := hc
   have hyes : True := trivial
   refine yR ?_
   try dsimp only [St.put]
   refine aa rfl (ubo (j := n) (k := 1) (m := 2) (sz := 3) rfl rfl zG rfl rfl (by decide) rfl) ?_
   try dsimp only [St.put]
   refine du rfl (d9 rfl rfl rfl) ?_
   try dsimp only [St.put]
   refine af rfl (dt rfl rfl rfl zG rfl rfl (by rfl) ?_)
   refine yN ?_
   dsimp only [St.put]
   first
   | exact ⟨1 + 1, hyes, ⟨⟨rfl, rfl⟩, zF, zB, zN, zX⟩⟩
   | exact ⟨1, hno, ⟨⟨rfl, rfl⟩, zF, zB, zN, zX⟩⟩
  obtain rfl : b = false := hc
  have hno : True := trivial
  refine av ?_
  first
  | exact ⟨1 + 1, hyes, ⟨⟨rfl, rfl⟩, zF, zB, zN, zX⟩⟩
  | exact ⟨1, hno, ⟨⟨rfl, rfl⟩, zF, zB, zN, zX⟩⟩
 rintro wv hI
 dsimp only at hI ⊢
 refine yS fun _ K9 => ?_
 refine yS fun _ K10 => ?_
 refine yR ?_
 refine aa rfl (dj rfl rfl) ?_
 try dsimp only [St.put]
 refine du rfl (gg rfl rfl zG trivial (by first | rfl | assumption)) ?_
 refine yE rfl rfl rfl ?_
 try dsimp only [St.put]
 refine af rfl (ba rfl rfl rfl (oh b p) ?_)
 refine aa rfl (bg rfl rfl (List.length_map _)) ?_
 refine aa rfl (gm rfl rfl rfl (by omega)) ?_
 refine yM rfl rfl ?_
 try dsimp only [St.put]
 refine af rfl (ef rfl rfl rfl (by decide) (by decide) zR (by decide) ?_)
 try dsimp only [St.put]
 refine af rfl (ba rfl rfl rfl (jh _ _ [_]) ?_)
 refine aa rfl (dv rfl rfl) ?_
 refine yN ?_
 dsimp only [St.put]
 refine K10 _ ?_
 refine ak rfl (fun hc => ?_) (fun hc => ?_)
 ·have h1 : inB m 0 (((cz p b).length : Int) - 1) = false := by rw [er] at hc; simpa using hc
  have hE : jx p b m = 2 := by simp [jx, h0, h1]
  refine yS fun _ K11 => ?_
  refine yR ?_
  refine yA rfl rfl ?_
  refine yA rfl rfl ?_
  refine yN ?_
  dsimp only [St.put]
  refine K11 _ ?_
  refine ax ?_
  refine gx rfl (by constructor) (by constructor) zN zS ?_ ?_
  ·exact vi (by simp [mz, atE, hE])
  exact vi hE.symm
 have h1 : inB m 0 (((cz p b).length : Int) - 1) = true := by rw [er] at hc; simpa using hc
 have hE : jx p b m = 0 := by simp [jx, h0, h1]
 obtain ⟨j, hj⟩ : ∃ j : Nat, m = (j : Int) := ⟨m.toNat, by have := inB_true.1 h1; omega⟩
 subst hj
 have hjl : j < (cz p b).length := by have := inB_true.1 h1; omega
 have hV : mz p b (j : Int) = jz p b j := by simp [mz, atE, hE]
 refine av ?_
 refine K9 _ ?_
 refine yS fun _ K12 => ?_
 refine yR ?_
 refine yM rfl rfl ?_
 try dsimp only [St.put]
 refine du rfl (tx rfl rfl zG trivial (by rfl)) ?_
 refine yM rfl rfl ?_
 try dsimp only [St.put]
 refine af rfl (ba rfl rfl rfl (uf3 p b j hok hjl) ?_)
 refine yM rfl rfl ?_
 refine yX rfl rfl rfl rfl ?_
 refine yX rfl rfl rfl rfl ?_
 refine yA rfl rfl ?_
 refine yA rfl rfl ?_
 refine yN ?_
 dsimp only [St.put]
 refine K12 _ ?_
 refine yS fun _ K13 => ?_
 refine yR ?_
 refine yM rfl rfl ?_
 refine yA rfl rfl ?_
 refine yA rfl rfl ?_
 refine yN ?_
 dsimp only [St.put]
 refine K13 _ ?_
 refine ax ?_
 refine gx rfl (by constructor) (by constructor) zN zS ?_ ?_
 ·exact vi hV.symm
 exact vi hE.symm
theorem ua2 (n : Nat) (p : am) (m : Int) : mg n j8 Tryd.prog 19 [val p, .v (.int .i64 m)] (.tup [val (i5 p m), .v (.int .i64 (kf p m))]) := fun G nx hF hnx => by
 refine kp (G) (nx) Tryd.func19 rfl (.tup (bk (cw _ _) (bk .v cg))) zN (fun hlt => zH) ?_
 simp only [Tryd.ntmps19, List.length_cons, List.length_nil, Nat.reduceAdd, Nat.reduceSub]
 refine ct fun hlt => ?_
 dsimp only at hlt
 refine yS fun _ K1 => ?_
 refine yR ?_
 try dsimp only [St.put]
 refine yB rfl rfl rfl ?_
 try dsimp only [St.put]
 refine af rfl (eh rfl ?_)
 refine yA rfl rfl ?_
 refine yN ?_
 dsimp only [St.put]
 refine K1 _ ?_
 refine yS fun _ K2 => ?_
 refine yR ?_
 refine yE rfl rfl rfl ?_
 refine yM rfl rfl ?_
 try dsimp only [St.put]
 refine af rfl (jt rfl rfl rfl (ui n p m) zG (by dsimp only [St.put]; omega) ?_)
 refine yM rfl rfl ?_
 refine yX rfl rfl rfl rfl ?_
 refine yX rfl rfl rfl rfl ?_
 refine yA rfl rfl ?_
 refine yA rfl rfl ?_
 refine yN ?_
 dsimp only [St.put]
 refine K2 _ ?_
 refine yS fun _ K3 => ?_
 refine yS fun _ K4 => ?_
 refine yR ?_
 refine yM rfl rfl ?_
 refine aa rfl (fj rfl rfl rfl) ?_
 refine yN ?_
 dsimp only [St.put]
 refine K4 _ ?_
 refine ak rfl (fun hc => ?_) (fun hc => ?_)
 ·have h0 : eg p m ≠ 0 := ia hc
  have hE : kf p m = eg p m := by unfold kf; rw [decide_eq_false h0]; rfl
  have hV : i5 p m = ⟨0, 0⟩ := by unfold i5; rw [hE, nz h0]
  refine yS fun _ K5 => ?_
  refine yR ?_
  refine aa rfl (l5 rfl rfl) ?_
  refine yM rfl rfl ?_
  try dsimp only [St.put]
  refine af rfl (dt rfl rfl rfl zG rfl rfl (by rfl) ?_)
  refine yA rfl rfl ?_
  refine yN ?_
  dsimp only [St.put]
  refine K5 _ ?_
  refine ax ?_
  refine iv rfl (om rfl zG (by rfl) zC rfl) (fl (by constructor)) zN zS ?_ ?_
  ·rw [hV]; exact zW
  rw [hE]; exact zW
 have h0 : eg p m = 0 := gw hc
 obtain ⟨hc0, j, x, rfl, hx, hpo⟩ := m4 h0
 obtain ⟨hok, _⟩ := mc hc0
 have hp := pageB_true.1 (hok.page j x hx)
 have hal := km hok.text
 have hfl := io hp.found
 have hwl := io hp.well
 have hbl := rb p.text x
 have hw := uo (bf p.text) hx
 rw [ug h0]
 refine av ?_
 refine K3 _ ?_
 refine yS fun _ K6 => ?_
 refine yR ?_
 refine yM rfl rfl ?_
 refine aa rfl (ni rfl rfl) ?_
 refine yF rfl rfl rfl rfl ?_
 refine yL rfl rfl rfl ?_
 refine yM rfl rfl ?_
 refine aa rfl (bl rfl rfl rfl rfl (bn (by assumption)) (Enc.len _)) ?_
 refine yL rfl rfl rfl ?_
 refine aa rfl (bg rfl rfl (List.length_map _)) ?_
 refine yA rfl rfl ?_
 refine yN ?_
 dsimp only [St.put]
 refine K6 _ ?_
 refine yS fun _ K7 => ?_
 refine yS fun _ K8 => ?_
 refine yR ?_
 refine yM rfl rfl ?_
 refine aa rfl (ir rfl rfl rfl) ?_
 refine yN ?_
 dsimp only [St.put]
 refine K8 _ ?_
 refine ak rfl (fun hc => ?_) (fun hc => ?_)
 ·have hk : (bf p.text x).length = 0 := by have := of_decide_eq_true hc; omega
  have hE : kf p (j : Int) = 6 := by unfold kf; rw [h0, hpo, decide_eq_true hk]; rfl
  have hV : i5 p (j : Int) = ⟨0, 0⟩ := by unfold i5; rw [hE, nz (by decide)]
  refine yS fun _ K9 => ?_
  refine yR ?_
  refine aa rfl (l5 rfl rfl) ?_
  try dsimp only [St.put]
  refine af rfl (dt rfl rfl rfl zG rfl rfl (by rfl) ?_)
  refine yA rfl rfl ?_
  refine yN ?_
  dsimp only [St.put]
  refine K9 _ ?_
  refine ax ?_
  refine iv rfl (om rfl zG (by rfl) zC rfl) (fl (by constructor)) zN zS ?_ ?_
  ·rw [hV]; exact zW
  rw [hE]; exact zW
 have hk : ¬ (bf p.text x).length = 0 := by have := of_decide_eq_false hc; omega
 obtain ⟨hE, hV⟩ := ub3 h0 hpo rfl hk
 have hfw : x.found.length * x.well.length ≤ 600 * 600 := Nat.mul_le_mul (by omega) (by omega)
 have hfc := Int.natCast_mul x.found.length x.well.length
 have hjl := (List.getElem?_eq_some_iff.1 hx).1
 refine av ?_
 refine K7 _ ?_
 refine yS fun _ K10 => ?_
 refine f4 [(0, none), (1, none), (2, none), (3, none), (4, none), (5, none), (6, none), (7, none), (8, none), (9, none), (10, none), (11, none), (12, none), (13, none), (14, none), (15, none)] (fun i => [].contains i) (fun i => [].contains i) (fun i => [0, 2, 3, 4, 6, 7, 9, 10, 11, 13, 14, 15].contains i) [] (by kernel_rfl) (by kernel_rfl) ?_
 refine ae rfl rfl rfl rfl (cb rfl rfl rfl) ?_
 try dsimp only [St.put]
 refine aw rfl rfl rfl rfl (bv rfl rfl) ?_
 refine xM rfl rfl rfl rfl rfl ?_
 try dsimp only [St.put]
 refine ae rfl rfl rfl rfl (bl rfl rfl rfl rfl (bn (by assumption)) (Enc.len _)) ?_
 refine ae rfl rfl rfl rfl (cb rfl rfl rfl) ?_
 try dsimp only [St.put]
 refine aw rfl rfl rfl rfl (bv rfl rfl) ?_
 refine ae rfl rfl rfl rfl (bg rfl rfl (List.length_map _)) ?_
 refine ae rfl rfl rfl rfl (cb rfl rfl rfl) ?_
 try dsimp only [St.put]
 refine aw rfl rfl rfl rfl (bv rfl rfl) ?_
 refine xM rfl rfl rfl rfl rfl ?_
 try dsimp only [St.put]
 refine ae rfl rfl rfl rfl (bl rfl rfl rfl rfl (bn (by assumption)) (Enc.len _)) ?_
 refine ae rfl rfl rfl rfl (cb rfl rfl rfl) ?_
 try dsimp only [St.put]
 refine aw rfl rfl rfl rfl (bv rfl rfl) ?_
 refine ae rfl rfl rfl rfl (bg rfl rfl (List.length_map _)) ?_
 refine ae rfl rfl rfl rfl (sd rfl rfl rfl (by omega)) ?_
 refine ae rfl rfl rfl rfl (gn rfl (by constructor)) ?_
 refine bq ?_
 dsimp only [St.put]
 rw [show (x.found.length : Int) * (x.well.length : Int) = ((x.found.length * x.well.length : Nat) : Int) from hfc.symm]
 obtain ⟨M, hM⟩ : ∃ M, x.found.length * x.well.length = M := ⟨_, rfl⟩
 obtain ⟨K, hK⟩ : ∃ K, (bf p.text x).length = K := ⟨_, rfl⟩
 have hV2 : i5 p (j : Int) = ⟨(M : Int) / (K : Int), ((M : Int) + (K : Int) - 1) / (K : Int)⟩ := by
  rw [hV]
  unfold uz
  rw [hM, hK, Int.natCast_ediv, Int.natCast_ediv, show ((M + K - 1 : Nat) : Int) = (M : Int) + (K : Int) - 1 by omega]
 rw [hM] at hfw
 rw [hK] at hk hbl
 rw [hM, hK]
 refine K10 _ ?_
 refine yS fun _ K11 => ?_
 refine f4 [(0, none), (1, none), (2, none), (3, none), (4, none), (5, none), (6, none), (7, none), (8, none), (9, none), (10, none), (11, none)] (fun i => [10].contains i) (fun i => [10].contains i) (fun i => [0, 1, 2, 3, 4, 5, 6, 7, 8, 9, 11].contains i) [] (by kernel_rfl) (by kernel_rfl) ?_
 refine xM rfl rfl rfl rfl rfl ?_
 refine xM rfl rfl rfl rfl rfl ?_
 refine ae rfl rfl rfl rfl (pj rfl rfl rfl (by omega) (by omega)) ?_
 refine xM rfl rfl rfl rfl rfl ?_
 refine xM rfl rfl rfl rfl rfl ?_
 refine ae rfl rfl rfl rfl (br rfl rfl rfl (by omega)) ?_
 refine ae rfl rfl rfl rfl (gm rfl rfl rfl (by omega)) ?_
 refine xM rfl rfl rfl rfl rfl ?_
 refine ae rfl rfl rfl rfl (pj rfl rfl rfl (by omega) (by omega)) ?_
 refine ae rfl rfl rfl rfl (l5 rfl rfl) ?_
 refine ij ?_
 try dsimp only [St.put]
 refine gt rfl rfl rfl rfl (dt rfl rfl rfl zG rfl rfl (by rfl) ?_)
 refine di rfl rfl rfl rfl (gn rfl (by constructor)) ?_
 refine ii ?_
 dsimp only [St.put]
 refine K11 _ ?_
 refine ax ?_
 refine iv rfl (om rfl zG (by rfl) zC rfl) (fl (by constructor)) zN zS ?_ ?_
 ·rw [hV2]; exact zW
 rw [hE]; exact zW
end Go.Proofs.YtgffhbbcpgdjjaaDoor
namespace Go.AB
open Go Go.RowKit
open Go.AB.Enc (cells)
open Go.PB (ay aj PlaceD bh bj bi bx aq am cv co dq dp)
/-- the lists of the first pages; one of them is a cell of its own -/
def fm (f : aq → List PlaceD) (ps : List aq) (t : Nat) (c : C) (k : Nat) : List (List C) := (ps.take k).mapIdx fun i x => bif decide (i = t) then [c] else [lst (f x)]
section
variable {f : aq → List PlaceD} {ps : List aq} {t k : Nat} {c c' : C} {x : aq}
theorem uc (f : aq → List PlaceD) (ps : List aq) (t : Nat) (c : C) (k : Nat) : ∀ r ∈ fm f ps t c k, r.length = 1 := fun r hr => by
 unfold fm at hr
 obtain ⟨i, hi, rfl⟩ := List.mem_mapIdx.1 hr
 cases decide (i = t) <;> rfl
theorem ub (f : aq → List PlaceD) (ps : List aq) (t : Nat) (c : C) (k : Nat) : (fm f ps t c k).length = min k ps.length := by
 unfold fm
 rw [List.length_mapIdx, List.length_take]
theorem oo {m : Nat} (h : t < k → C.low m c) : ∀ r ∈ fm f ps t c k, ∀ d ∈ r, C.low m d := fun r hr d hd => by
 unfold fm at hr
 obtain ⟨i, hi, rfl⟩ := List.mem_mapIdx.1 hr
 have hik : i < k := by rw [List.length_take] at hi; omega
 by_cases e : i = t
 ·rw [decide_eq_true e, cond_true, List.mem_singleton] at hd
  subst hd
  exact h (e ▸ hik)
 rw [decide_eq_false e, cond_false, List.mem_singleton] at hd
 subst hd
 exact ar _ _
theorem uab (hx : ps[k]? = some x) : fm f ps t c (k + 1) = fm f ps t c k ++ [bif decide (k = t) then [c] else [lst (f x)]] := by
 have hk := (List.getElem?_eq_some_iff.1 hx).1
 unfold fm
 rw [pd hx, List.mapIdx_append]
 congr 1
 show [bif decide (0 + (ps.take k).length = t) then [c] else [lst (f x)]] = _
 rw [Nat.zero_add, List.length_take, Nat.min_eq_left (Nat.le_of_lt hk)]
theorem ua (hx : ps[k]? = some x) (h : ¬ k = t) : fm f ps t c k ++ [[lst (f x)]] = fm f ps t c (k + 1) := by
 rw [uab hx, decide_eq_false h]; rfl
theorem ufi (h : k ≤ t) : fm f ps t c k = fm f ps t c' k := by
 unfold fm
 apply List.ext_getElem?
 intro i
 rw [List.getElem?_mapIdx, List.getElem?_mapIdx]
 by_cases hi : i < k
 ·rw [decide_eq_false (show ¬ i = t by omega)]; rfl
 rw [List.getElem?_eq_none (by rw [List.length_take]; omega)]; rfl
theorem ud (hx : ps[k]? = some x) (h : k = t) : fm f ps t c k ++ [[c']] = fm f ps t c' (k + 1) := by
 rw [uab hx, decide_eq_true h, ufi (c' := c') (Nat.le_of_eq h)]; rfl
theorem uac (hx : ps[t]? = some x) : (fm f ps t c ps.length)[t]? = some [c] := by
 unfold fm
 rw [List.take_length, List.getElem?_mapIdx, hx, Option.map_some, decide_eq_true rfl]; rfl
end
def nt (t k : Nat) : Nat := bif decide (t < k) then 6 else 0
theorem uch {t k : Nat} (h : ¬ k = t) : nt t (k + 1) = nt t k := by
 unfold nt
 by_cases q : t < k
 ·rw [decide_eq_true q, decide_eq_true (show t < k + 1 by omega)]
 rw [decide_eq_false q, decide_eq_false (show ¬ t < k + 1 by omega)]
theorem ucg {t k : Nat} (h : ¬ t < k) : nt t k = 0 := by unfold nt; rw [decide_eq_false h]; rfl
theorem ve {t k : Nat} (h : t < k) : nt t k = 6 := by unfold nt; rw [decide_eq_true h]; rfl
end Go.AB
namespace Go.Proofs.YtgffhbbcpgdjjaaDoor
set_option maxRecDepth 10000
open Go Go.RowKit Go.AB
open Go.AB.Enc (cells)
open Go.PB (ay aj PlaceD bh bj bi bx aq am cv co dq dp)
/-- what lies where proofs are opened, on the first pages -/
def boxG (p : am) (xt : aq) (nx t k : Nat) (y : Nat × Nat × Nat × Nat × Nat × Nat) : GObj := .box (k + k + k) [lst p.text, lst p.firsts, lst p.seconds, lst p.pages, .list (((p.pages.take k).map fun x => (dw p.text x : Int)).map cells) (.tip (nx + 1 + 1)), .list (fm (ca p.text) p.pages t (.own y.1 y.2.1 (ca p.text xt).length) k) (.tip (nx + 1 + 1 + 1)), .list (fm (bf p.text) p.pages t (.own y.2.2.2.1 y.2.2.2.2.1 (bf p.text xt).length) k) (.tip (nx + 1 + 1 + 1 + 1))]
def ya (p : am) (xt : aq) (y : Nat × Nat × Nat × Nat × Nat × Nat) : GObj := .arr y.2.1 y.2.2.1 54 3 (ca p.text xt).length (ci (ca p.text xt))
def yp (p : am) (xt : aq) (y : Nat × Nat × Nat × Nat × Nat × Nat) : GObj := .arr y.2.2.2.2.1 y.2.2.2.2.2 54 3 (bf p.text xt).length (ci (bf p.text xt))
def jv (p : am) (xt : aq) (G : Nat → Option GObj) (y : Nat × Nat × Nat × Nat × Nat × Nat) : Nat → Option GObj := ai (ai G y.1 (ya p xt y)) y.2.2.2.1 (yp p xt y)
def kb (p : am) (xt : aq) (G : Nat → Option GObj) (nx t k : Nat) (y : Nat × Nat × Nat × Nat × Nat × Nat) : Nat → Option GObj :=
 ai (ai (ai (ai (bif decide (t < k) then jv p xt G y else G) (nx + 1) (boxG p xt nx t k y)) (nx + 1 + 1) (.tip ((p.pages.take k).map fun x => (dw p.text x : Int)).length 3 1)) (nx + 1 + 1 + 1) (.tip (fm (ca p.text) p.pages t (.own y.1 y.2.1 (ca p.text xt).length) k).length 36 1)) (nx + 1 + 1 + 1 + 1) (.tip (fm (bf p.text) p.pages t (.own y.2.2.2.1 y.2.2.2.2.1 (bf p.text xt).length) k).length 36 1)
section
variable {p : am} {xt : aq} {G H : Nat → Option GObj} {nx t k : Nat} {y : Nat × Nat × Nat × Nat × Nat × Nat}
theorem r8 (h0 : H (nx + 1) = some (boxG p xt nx t k y)) (h1 : H (nx + 1 + 1) = some (.tip ((p.pages.take k).map fun x => (dw p.text x : Int)).length 3 1)) (h2 : H (nx + 1 + 1 + 1) = some (.tip (fm (ca p.text) p.pages t (.own y.1 y.2.1 (ca p.text xt).length) k).length 36 1)) (h3 : H (nx + 1 + 1 + 1 + 1) = some (.tip (fm (bf p.text) p.pages t (.own y.2.2.2.1 y.2.2.2.2.1 (bf p.text xt).length) k).length 36 1))
  (hA : t < k → H y.1 = some (ya p xt y) ∧ H y.2.2.2.1 = some (yp p xt y)) (h : ∀ m o, G m = some o → H m = some o) : ∀ m o, kb p xt G nx t k y m = some o → H m = some o := by
 unfold kb
 refine jw h3 (jw h2 (jw h1 (jw h0 ?_)))
 by_cases q : t < k
 ·rw [decide_eq_true q, cond_true]
  exact jw (hA q).2 (jw (hA q).1 h)
 rw [decide_eq_false q, cond_false]
 exact h
theorem ugl (hy : nx + 5 ≤ y.1 ∧ nx + 5 ≤ y.2.2.2.1) (hn : y.1 ≠ y.2.2.2.1) : kb p xt G nx t k y (nx + 1) = some (boxG p xt nx t k y) ∧ kb p xt G nx t k y (nx + 1 + 1) = some (.tip ((p.pages.take k).map fun x => (dw p.text x : Int)).length 3 1) ∧ kb p xt G nx t k y (nx + 1 + 1 + 1) = some (.tip (fm (ca p.text) p.pages t (.own y.1 y.2.1 (ca p.text xt).length) k).length 36 1) ∧ kb p xt G nx t k y (nx + 1 + 1 + 1 + 1) = some (.tip (fm (bf p.text) p.pages t (.own y.2.2.2.1 y.2.2.2.2.1 (bf p.text xt).length) k).length 36 1)
  ∧ (t < k → kb p xt G nx t k y y.1 = some (ya p xt y) ∧ kb p xt G nx t k y y.2.2.2.1 = some (yp p xt y)) ∧ ∀ m, m < nx + 1 → kb p xt G nx t k y m = G m := by
 unfold kb
 refine ⟨zG, zG, zG, zG, fun q => ?_, fun m hm => ?_⟩
 ·rw [decide_eq_true q, cond_true]
  unfold jv
  exact ⟨zG, zG⟩
 rw [cm (by omega), cm (by omega), cm (by omega), cm (by omega)]
 cases decide (t < k)
 ·rfl
 show jv p xt G y m = G m
 unfold jv
 rw [cm (by omega), cm (by omega)]
theorem ugk {M : Nat} (hM : nx + 5 ≤ M) (hy : t < k → y.1 < M ∧ y.2.2.2.1 < M) (h : ∀ m o, G m = some o → H m = some o) : ∀ m o, kb p xt G nx t k y m = some o → H m = some o ∨ (m < M ∧ o.low M) := by
 unfold kb
 refine et (et (et (et ?_ (by omega) ?_) (by omega) trivial) (by omega) trivial) (by omega) trivial
 ·by_cases q : t < k
  ·rw [decide_eq_true q, cond_true]
   unfold jv
   exact et (et (fun m o hm => .inl (h m o hm)) (hy q).1 (cc _)) (hy q).2 (cc _)
  rw [decide_eq_false q, cond_false]
  exact fun m o hm => .inl (h m o hm)
 exact bk (ar _ _) (bk (ar _ _) (bk (ar _ _) (bk (ar _ _) (bk (cy _ (by omega)) (bk (p9 (oo fun q => .own (hy q).1) (by omega)) (bk (p9 (oo fun q => .own (hy q).2) (by omega)) cg))))))
end
/-- what is opened -/
def pi (p : am) (xt : aq) (t : Nat) (y : Nat × Nat × Nat × Nat × Nat × Nat) : C := .elem [lst p.text, lst p.firsts, lst p.seconds, lst p.pages, lst (p.pages.map fun x => (dw p.text x : Int)), .list (fm (ca p.text) p.pages t (.own y.1 y.2.1 (ca p.text xt).length) p.pages.length) .none, .list (fm (bf p.text) p.pages t (.own y.2.2.2.1 y.2.2.2.2.1 (bf p.text xt).length) p.pages.length) .none]
theorem uaa {m : Nat} {rows : List (List C)} (h : ∀ r ∈ rows, ∀ c ∈ r, C.low m c) : C.low m (.list rows .none) := .list h (by simp)
theorem ube {m t : Nat} {p : am} {xt : aq} {y : Nat × Nat × Nat × Nat × Nat × Nat} (h : y.1 < m ∧ y.2.2.2.1 < m) : C.low m (pi p xt t y) :=
 .elem (bk (ar _ _) (bk (ar _ _) (bk (ar _ _) (bk (ar _ _) (bk (ar _ _) (bk (uaa (oo fun _ => .own h.1)) (bk (uaa (oo fun _ => .own h.2)) cg)))))))
theorem zf {M : Nat} {p : am} {xt : aq} {G : Nat → Option GObj} {y : Nat × Nat × Nat × Nat × Nat × Nat} (h : y.1 < M ∧ y.2.2.2.1 < M) : ∀ m o, jv p xt G y m = some o → G m = some o ∨ (m < M ∧ o.low M) := by
 unfold jv
 exact et (et (fun m o hm => .inl hm) h.1 (cc _)) h.2 (cc _)
set_option maxHeartbeats 4000000 in
theorem ugj (n : Nat) (p : am) (t : Nat) (xt : aq) (hC : em p = 0) (hxt : p.pages[t]? = some xt) (G : Nat → Option GObj) (nx : Nat) (hF : G n = some j8) (hnx : n < nx) : PC Tryd.prog 39 [val p] G nx fun r' G' nx' => ∃ y : Nat × Nat × Nat × Nat × Nat × Nat, ((nx ≤ y.1 ∧ nx ≤ y.2.2.2.1) ∧ (y.1 < nx + 11 ∧ y.2.2.2.1 < nx + 11) ∧ y.1 ≠ y.2.2.2.1) ∧ r' = .tup [pi p xt t y, .v (.int .i64 0)] ∧ G' = jv p xt G y ∧ nx' = nx + 11 := by
 refine rz (nx := nx) (G := G) (args := [val p]) (fun y => .tup [pi p xt t y, .v (.int .i64 0)]) (fun y => jv p xt G y) (fun _ => nx + 11) (fun y => (nx ≤ y.1 ∧ nx ≤ y.2.2.2.1) ∧ (y.1 < nx + 11 ∧ y.2.2.2.1 < nx + 11) ∧ y.1 ≠ y.2.2.2.1) Tryd.func39 rfl (fun y hS => .tup (bk (ube hS.2.1) (bk .v cg))) (fun y hS => zN) (fun hlt y hS => (by (repeat' (refine et ?_ (by (try dsimp only); omega) ?_)); all_goals (first | exact fq zS | (repeat' (first | exact trivial | refine ⟨?_, ?_⟩ | exact .v | exact .any | refine .elem ?_ | exact ar _ _ | exact c6 _ _ | exact cw _ _ | exact cy _ (by (try dsimp only); omega) | exact .box (by (try dsimp only); omega) | exact c5 | exact cg | exact zf hS.2.1 | refine c4 ?_ ?_ | exact .arr (by (try dsimp only); omega) | exact .own (by (try dsimp only); omega) | exact .map (by (try dsimp only); omega) | exact cc _ | refine bk ?_ ?_ | exact ar _ _))))) ?_
 simp only [Tryd.ntmps39, List.length_cons, List.length_nil, Nat.reduceAdd, Nat.reduceSub]
 refine ct fun hlt => ?_
 dsimp only at hlt
 have hlt0 := hlt
 obtain ⟨hok, hpB⟩ := mc hC
 have ht : dl p.text = true := hok.text
 have htl := (List.getElem?_eq_some_iff.1 hxt).1
 obtain ⟨hl1, hl2, hl3⟩ := jo ht
 have hll : lg p.text ≤ 60 := og ht _ (Nat.le_refl _)
 refine yS fun _ K1 => ?_
 refine yR ?_
 try dsimp only [St.put]
 refine yB rfl rfl rfl ?_
 refine yA rfl rfl ?_
 refine yA rfl rfl ?_
 refine yN ?_
 dsimp only [St.put]
 refine K1 _ ?_
 refine yv ?_
 refine yS fun _ K2 => ?_
 refine yS fun _ K3 => ?_
 refine yR ?_
 refine yF rfl rfl rfl rfl ?_
 try dsimp only [St.put]
 refine du rfl (c := eu p.text) (im (cs := cells p) rfl rfl (show 1 ≤ 4 by decide)) ?_
 try dsimp only [St.put]
 refine af rfl (ba rfl rfl rfl (ubx p.text) ?_)
 refine yA rfl rfl ?_
 refine yN ?_
 dsimp only [St.put]
 refine K3 _ ?_
 refine yS fun _ K4 => ?_
 refine yR ?_
 refine yM rfl rfl ?_
 refine aa rfl (fj rfl rfl rfl) ?_
 refine yN ?_
 dsimp only [St.put]
 refine K4 _ ?_
 refine ak rfl (fun hc => ?_) (fun hc => ?_)
 ·have h0 := ia hc
  unfold ie at h0
  rw [ht] at h0
  exact absurd rfl h0
 skip
 refine av ?_
 refine K2 _ ?_
 refine yS fun _ K5 => ?_
 refine yR ?_
 refine yF rfl rfl rfl rfl ?_
 try dsimp only [St.put]
 refine du rfl (c := eu p.text) (im (cs := cells p) rfl rfl (show 1 ≤ 4 by decide)) ?_
 try dsimp only [St.put]
 refine af rfl (ba rfl rfl rfl (ua1 p.text ht) ?_)
 refine yM rfl rfl ?_
 refine yX rfl rfl rfl rfl ?_
 refine yX rfl rfl rfl rfl ?_
 refine yA rfl rfl ?_
 refine yA rfl rfl ?_
 refine yN ?_
 dsimp only [St.put]
 refine K5 _ ?_
 refine yS fun _ K6 => ?_
 refine yR ?_
 try dsimp only [St.put]
 refine af rfl (qv (α := Int) rfl ?_)
 refine yA rfl rfl ?_
 refine yN ?_
 dsimp only [St.put]
 refine K6 _ ?_
 refine yS fun _ K7 => ?_
 refine yS fun _ K8 => ?_
 refine yR ?_
 try dsimp only [St.put]
 refine du rfl (tw (n := 6) (m := n) rfl rfl zG rfl) ?_
 refine yM rfl rfl ?_
 refine yN ?_
 dsimp only [St.put]
 refine K8 _ ?_
 refine az ?_
 refine cj 38 ?_
 refine zQ ?_
 refine db (ai G nx (fe Tryd.prog 3 0 fun _ => none)) zX ?_
 dsimp only
 refine c7 (X := Nat) (fun k => k ≤ 2 ∧ okR (eb p k) ∧ ((0 < k → p.firsts.length ≤ 3) ∧ (1 < k → p.seconds.length ≤ 3))) (fun k => 2 - k) (fun k => [(9, .any), (11, .any), (37, .v (.int .i64 (k : Int)))]) (fun k G' => (ai G (nx) (fe Tryd.prog 3 (((eb p k).length)) (fy (((eb p k)).map (·.id)))))) 0 rfl ?_ ?_ ?_ ?_ ?_ ?_
 ·exact ⟨by omega, ⟨rfl, List.nodup_nil⟩, fun h => absurd h (Nat.lt_irrefl _), fun h => by omega⟩
 ·exact zF
 ·rw [show fy ((eb p 0).map (·.id)) = fun _ => none from x7]
  exact zX
 ·rintro k hI
  exact (by (try dsimp only); repeat' (first | exact trivial | refine ⟨?_, ?_⟩ | exact .v | exact .any | refine .elem ?_ | exact ar _ _ | exact c6 _ _ | exact cw _ _ | exact cy _ (by (try dsimp only); omega) | exact .box (by (try dsimp only); omega) | exact c5 | exact cg | exact ei (gj _ _) | refine c4 ?_ ?_ | exact .arr (by (try dsimp only); omega) | exact .own (by (try dsimp only); omega) | exact .map (by (try dsimp only); omega) | exact cc _ | refine bk ?_ ?_ | exact ar _ _))
 ·rintro k hI
  exact (by (repeat' (refine et ?_ (by (try dsimp only); omega) ?_)); all_goals (first | exact fq zS | (repeat' (first | exact trivial | refine ⟨?_, ?_⟩ | exact .v | exact .any | refine .elem ?_ | exact ar _ _ | exact c6 _ _ | exact cw _ _ | exact cy _ (by (try dsimp only); omega) | exact .box (by (try dsimp only); omega) | exact c5 | exact cg | exact ei (gj _ _) | refine c4 ?_ ?_ | exact .arr (by (try dsimp only); omega) | exact .own (by (try dsimp only); omega) | exact .map (by (try dsimp only); omega) | exact cc _ | refine bk ?_ ?_ | exact ar _ _))))
 rintro k hI
 dsimp only at hI ⊢
 refine yS fun _ K9 => ?_
 refine yR ?_
 refine aa rfl (cn rfl rfl rfl) ?_
 refine yN ?_
 dsimp only [St.put]
 refine K9 _ ?_
 refine yS fun _ K10 => ?_
 refine ak rfl (fun hc => ?_) (fun hc => ?_)
 ·replace hc := of_decide_eq_true hc
  have hk : k < 2 := by omega
  refine av ?_
  refine K10 _ ?_
  refine yS fun _ K11 => ?_
  refine az ?_
  refine yS fun _ K12 => ?_
  refine yR ?_
  refine aa rfl (un (k := k) (m := 2) (sz := 3) rfl rfl rfl rfl hk (tr hk)) ?_
  try dsimp only [St.put]
  refine af rfl (eh rfl ?_)
  try dsimp only [St.put]
  refine af rfl (dt rfl rfl rfl zG rfl rfl (by rfl) ?_)
  refine yN ?_
  dsimp only [St.put]
  refine K12 _ ?_
  refine eo (i := 9) rfl zG zC ?_
  dsimp only
  refine yS fun _ K13 => ?_
  refine yS fun _ K14 => ?_
  refine yR ?_
  refine yF rfl rfl rfl rfl ?_
  refine yL rfl rfl rfl ?_
  refine yE rfl rfl rfl ?_
  try dsimp only [St.put]
  refine af rfl (ba rfl rfl rfl (oh (decide (k = 1)) p) ?_)
  refine aa rfl (bg rfl rfl (List.length_map _)) ?_
  refine aa rfl (gq rfl rfl rfl) ?_
  refine yN ?_
  dsimp only [St.put]
  refine K14 _ ?_
  refine ak rfl (fun hc => ?_) (fun hc => ?_)
  ·have hs3 : ¬ (cz p (decide (k = 1))).length ≤ 3 := by
    have := of_decide_eq_true hc
    omega
   exact absurd (ubt hs3) (by rw [hpB]; decide)
  have hs3 : (cz p (decide (k = 1))).length ≤ 3 := by
   have := of_decide_eq_false hc
   omega
  refine av ?_
  refine K13 _ ?_
  refine yS fun _ K15 => ?_
  refine yR ?_
  refine yF rfl rfl rfl rfl ?_
  refine yL rfl rfl rfl ?_
  refine yE rfl rfl rfl ?_
  try dsimp only [St.put]
  refine af rfl (ba rfl rfl rfl (oh (decide (k = 1)) p) ?_)
  refine aa rfl (bg rfl rfl (List.length_map _)) ?_
  refine yM rfl rfl ?_
  refine yN ?_
  dsimp only [St.put]
  rw [show fy ((eb p k).map (·.id)) = fy ((eb p k ++ (cz p (decide (k = 1))).take 0).map (·.id)) by simp]
  refine K15 _ ?_
  refine az ?_
  refine cj 52 ?_
  refine zQ ?_
  refine db ((ai G (nx) (fe Tryd.prog 3 (((eb p k).length)) (fy (((eb p k ++ (cz p (decide (k = 1))).take 0)).map (·.id)))))) zX ?_
  dsimp only
  refine c7 (X := Nat) (fun i => i ≤ (cz p (decide (k = 1))).length ∧ okR (eb p k ++ (cz p (decide (k = 1))).take i)) (fun i => (cz p (decide (k = 1))).length - i) (fun i => [(11, .any), (51, .v (.int .i64 (i : Int)))]) (fun i G' => (ai G (nx) (fe Tryd.prog 3 (((eb p k ++ (cz p (decide (k = 1))).take i).length)) (fy (((eb p k ++ (cz p (decide (k = 1))).take i)).map (·.id)))))) 0 rfl ?_ ?_ ?_ ?_ ?_ ?_
  ·exact ⟨Nat.zero_le _, by simpa using hI.2.1⟩
  ·exact zF
  ·rw [show (eb p k ++ (cz p (decide (k = 1))).take 0).length = (eb p k).length by simp]
   exact zX
  ·rintro i hI
   exact (by (try dsimp only); repeat' (first | exact trivial | refine ⟨?_, ?_⟩ | exact .v | exact .any | refine .elem ?_ | exact ar _ _ | exact c6 _ _ | exact cw _ _ | exact cy _ (by (try dsimp only); omega) | exact .box (by (try dsimp only); omega) | exact c5 | exact cg | exact ei (gj _ _) | refine c4 ?_ ?_ | exact .arr (by (try dsimp only); omega) | exact .own (by (try dsimp only); omega) | exact .map (by (try dsimp only); omega) | exact cc _ | refine bk ?_ ?_ | exact ar _ _))
  ·rintro i hI
   exact (by (repeat' (refine et ?_ (by (try dsimp only); omega) ?_)); all_goals (first | exact fq zS | (repeat' (first | exact trivial | refine ⟨?_, ?_⟩ | exact .v | exact .any | refine .elem ?_ | exact ar _ _ | exact c6 _ _ | exact cw _ _ | exact cy _ (by (try dsimp only); omega) | exact .box (by (try dsimp only); omega) | exact c5 | exact cg | exact ei (gj _ _) | refine c4 ?_ ?_ | exact .arr (by (try dsimp only); omega) | exact .own (by (try dsimp only); omega) | exact .map (by (try dsimp only); omega) | exact cc _ | refine bk ?_ ?_ | exact ar _ _))))
  rintro i hJ
  dsimp only at hJ ⊢
  refine yS fun _ K16 => ?_
  refine yR ?_
  refine aa rfl (cn rfl rfl rfl) ?_
  refine yN ?_
  dsimp only [St.put]
  refine K16 _ ?_
  refine yS fun _ K17 => ?_
  refine ak rfl (fun hc => ?_) (fun hc => ?_)
  ·replace hc := of_decide_eq_true hc
   obtain ⟨r, hr⟩ : ∃ r, (cz p (decide (k = 1)))[i]? = some r := cx (by omega)
   obtain ⟨L, hL⟩ : ∃ L, eb p k ++ (cz p (decide (k = 1))).take i = L := ⟨_, rfl⟩
   refine av ?_
   refine K17 _ ?_
   refine yS fun _ K18 => ?_
   refine az ?_
   refine yS fun _ K19 => ?_
   refine yR ?_
   refine aa rfl (bl rfl rfl rfl rfl (bn (by assumption)) (Enc.len _)) ?_
   refine yE rfl rfl rfl ?_
   try dsimp only [St.put]
   refine af rfl (eh rfl ?_)
   try dsimp only [St.put]
   refine af rfl (dt rfl rfl rfl zG rfl rfl (by rfl) ?_)
   refine yN ?_
   dsimp only [St.put]
   refine K19 _ ?_
   refine eo (i := 11) rfl zG zC ?_
   dsimp only
   refine yS fun _ K20 => ?_
   refine cj 52 ?_
   refine zQ ?_
   refine ix (X := Bool) (fun d => d = !(ff r && !decide (r.id ∈ (eb p k ++ (cz p (decide (k = 1))).take i).map (·.id)))) (fun d => [(72, .v (.bool d))]) (fun d G' => G') rfl ?_ (fun _ _ _ _ h => .inl h) ?_ ?_
   ·rintro d hI
    exact (by (try dsimp only); repeat' (first | exact trivial | refine ⟨?_, ?_⟩ | exact .v | exact .any | refine .elem ?_ | exact ar _ _ | exact c6 _ _ | exact cw _ _ | exact cy _ (by (try dsimp only); omega) | exact .box (by (try dsimp only); omega) | exact c5 | exact cg | exact ei (gj _ _) | refine c4 ?_ ?_ | exact .arr (by (try dsimp only); omega) | exact .own (by (try dsimp only); omega) | exact .map (by (try dsimp only); omega) | exact cc _ | refine bk ?_ ?_ | exact ar _ _))
   ·refine yR ?_
    refine yF rfl rfl rfl rfl ?_
    refine yL rfl rfl rfl ?_
    try dsimp only [St.put]
    refine af rfl (ef rfl rfl rfl (by decide) (by decide) zR (by decide) ?_)
    try dsimp only [St.put]
    refine af rfl (ba rfl rfl rfl (jh _ _ [_]) ?_)
    refine aa rfl (dv rfl rfl) ?_
    refine yM rfl rfl ?_
    refine ep (fun hs => ?_) (fun hs => ?_)
    ·have h5 : inB r.id 0 9999 = false := by rw [er] at hs; simpa using hs
     refine yK rfl ?_
     refine yK rfl ?_
     refine yK rfl ?_
     refine yK rfl ?_
     refine aa rfl (ck rfl rfl (by constructor)) ?_
     refine yM rfl rfl ?_
     refine yK rfl ?_
     refine yK rfl ?_
     refine yK rfl ?_
     refine yK rfl ?_
     refine yK rfl ?_
     refine aa rfl (ck rfl rfl (by constructor)) ?_
     refine yN ?_
     dsimp only [St.put]
     refine ⟨_, ?_, ⟨⟨rfl, rfl⟩, zF, zB, zN, zX⟩⟩
     unfold ff
     first
     | (rw [h5]; simp; done)
     | (rw [decide_eq_true h11]; simp; done)
     | (rw [h5, decide_eq_false h11, er]; simp)
    have h5 : inB r.id 0 9999 = true := by rw [er] at hs; simpa using hs
    refine yM rfl rfl ?_
    refine yF rfl rfl rfl rfl ?_
    refine yL rfl rfl rfl ?_
    try dsimp only [St.put]
    refine du rfl (na r.id rfl rfl zG trivial rfl (x8 _ _)) ?_
    refine aa rfl (bz rfl rfl (by constructor)) ?_
    refine yM rfl rfl ?_
    refine ep (fun hs => ?_) (fun hs => ?_)
    ·have h11 := of_decide_eq_true hs
     refine yK rfl ?_
     refine yK rfl ?_
     refine yK rfl ?_
     refine yK rfl ?_
     refine yK rfl ?_
     refine aa rfl (ck rfl rfl (by constructor)) ?_
     refine yN ?_
     dsimp only [St.put]
     refine ⟨_, ?_, ⟨⟨rfl, rfl⟩, zF, zB, zN, zX⟩⟩
     unfold ff
     first
     | (rw [h5]; simp; done)
     | (rw [decide_eq_true h11]; simp; done)
     | (rw [h5, decide_eq_false h11, er]; simp)
    have h11 := of_decide_eq_false hs
    refine yF rfl rfl rfl rfl ?_
    refine yL rfl rfl rfl ?_
    try dsimp only [St.put]
    refine af rfl (ef rfl rfl rfl (by decide) (by decide) zR (by decide) ?_)
    try dsimp only [St.put]
    refine af rfl (ba rfl rfl rfl (jh _ _ [_]) ?_)
    refine aa rfl (dv rfl rfl) ?_
    refine aa rfl (bz rfl rfl (by constructor)) ?_
    refine yN ?_
    dsimp only [St.put]
    refine ⟨_, ?_, ⟨⟨rfl, rfl⟩, zF, zB, zN, zX⟩⟩
    unfold ff
    first
    | (rw [h5]; simp; done)
    | (rw [decide_eq_true h11]; simp; done)
    | (rw [h5, decide_eq_false h11, er]; simp)
   rintro d hst
   dsimp only at hst ⊢
   refine ak rfl (fun hc => ?_) (fun hc => ?_)
   ·have hbad : ff r = false ∨ r.id ∈ (eb p k ++ (cz p (decide (k = 1))).take i).map (·.id) := by
     rw [hc] at hst
     cases h1 : ff r
     ·exact .inl rfl
     rw [h1] at hst
     right
     exact Classical.byContradiction fun h2 => by rw [decide_eq_false h2] at hst; cases hst
    exact absurd (uag hk hr hbad) (by rw [hpB]; decide)
   have hgood : ff r = true ∧ r.id ∉ (eb p k ++ (cz p (decide (k = 1))).take i).map (·.id) := by
    rw [hc] at hst
    cases h1 : ff r
    ·rw [h1] at hst; cases hst
    rw [h1] at hst
    exact ⟨rfl, fun h2 => by rw [decide_eq_true h2] at hst; cases hst⟩
   refine av ?_
   refine K20 _ ?_
   refine yR ?_
   refine yM rfl rfl ?_
   refine yF rfl rfl rfl rfl ?_
   refine yL rfl rfl rfl ?_
   try dsimp only [St.put]
   refine af rfl (lk (r.id) rfl rfl rfl zG rfl ((show jq (fy ((eb p k ++ (cz p (decide (k = 1))).take i).map (·.id))) r.id (.v (.bool true)) = fy ((eb p k ++ (cz p (decide (k = 1))).take (i + 1)).map (·.id)) from by rw [pd hr, ← List.append_assoc]; exact ub1 r)) ?_)
   refine yN ?_
   dsimp only [St.put]
   refine K18 _ ?_
   refine yR ?_
   refine aa rfl (br rfl rfl rfl (by omega)) ?_
   refine yM rfl rfl ?_
   refine yN ?_
   dsimp only [St.put]
   rw [show (eb p k ++ (cz p (decide (k = 1))).take i).length + 1 = (eb p k ++ (cz p (decide (k = 1))).take (i + 1)).length by rw [pd hr, ← List.append_assoc, List.length_append (bs := [r])]; rfl]
   exact ⟨i + 1, by omega, ⟨by omega, by rw [pd hr, ← List.append_assoc]; exact ubc hJ.2 hgood.1 hgood.2⟩, ⟨⟨rfl, rfl⟩, zF, zB, zN, zX⟩⟩
  replace hc := of_decide_eq_false hc
  refine cr ?_
  refine K11 _ ?_
  refine yR ?_
  refine aa rfl (br rfl rfl rfl (by omega)) ?_
  refine yM rfl rfl ?_
  refine yN ?_
  dsimp only [St.put]
  rw [show eb p k ++ (cz p (decide (k = 1))).take i = eb p (k + 1) by rw [zq hk, f8 (by omega)]] at hJ ⊢
  exact ⟨k + 1, by omega, ⟨by omega, hJ.2, by
   have h3 := hI.2.2
   by_cases e : k = 0
   ·subst e; exact ⟨fun _ => hs3, fun h => by omega⟩
   have e1 : k = 1 := by omega
   subst e1; exact ⟨fun _ => h3.1 (by omega), fun _ => hs3⟩⟩, ⟨⟨rfl, rfl⟩, zF, zB, zN, zX⟩⟩
 replace hc := of_decide_eq_false hc
 obtain rfl : k = 2 := by omega
 have hRB : iq p = true := by
  unfold iq
  have h2 := hI.2.1
  have h3 := hI.2.2
  rw [decide_eq_true (h3.1 (by omega)), decide_eq_true (h3.2 (by omega)), show (p.firsts ++ p.seconds).all ff = true from h2.1, decide_eq_true (show ((p.firsts ++ p.seconds).map (·.id)).Nodup from h2.2)]; rfl
 have hn1 : p.firsts.length ≤ 3 := hI.2.2.1 (by omega)
 have hn2 : p.seconds.length ≤ 3 := hI.2.2.2 (by omega)
 have hsl : ∀ b, (cz p b).length ≤ 3 := fun b => by cases b; exact hn1; exact hn2
 refine cr ?_
 refine K7 _ ?_
 refine yS fun _ K22 => ?_
 refine yS fun _ K23 => ?_
 refine yR ?_
 refine yF rfl rfl rfl rfl ?_
 refine yL rfl rfl rfl ?_
 refine aa rfl (bg rfl rfl (List.length_map _)) ?_
 refine aa rfl (gq rfl rfl rfl) ?_
 refine yN ?_
 dsimp only [St.put]
 refine K23 _ ?_
 refine ak rfl (fun hc => ?_) (fun hc => ?_)
 ·have hnp : ¬ p.pages.length ≤ 8 := by
   have := of_decide_eq_true hc
   omega
  exact absurd (uay hnp) (by rw [hpB]; decide)
 have hnp : p.pages.length ≤ 8 := by
  have := of_decide_eq_false hc
  omega
 refine av ?_
 refine K22 _ ?_
 refine yS fun _ K24 => ?_
 refine yR ?_
 refine yE rfl rfl rfl ?_
 refine aa rfl (l5 rfl rfl) ?_
 try dsimp only [St.put]
 refine af rfl (ucx rfl rfl ?_)
 refine yA rfl rfl ?_
 refine yN ?_
 dsimp only [St.put]
 refine K24 _ ?_
 refine o9 (nx + 1) 4 _ _ 3 1 zG rfl (by decide) ?_
 refine o9 (nx + 1) 5 _ _ 36 1 zG rfl (by decide) ?_
 refine o9 (nx + 1) 6 _ _ 36 1 zG rfl (by decide) ?_
 dsimp only [List.set_cons_zero, List.set_cons_succ]
 refine yS fun _ K25 => ?_
 refine yR ?_
 refine yA rfl rfl ?_
 refine yN ?_
 dsimp only [St.put]
 refine K25 _ ?_
 refine yS fun _ K26 => ?_
 refine yR ?_
 refine yA rfl rfl ?_
 refine yN ?_
 dsimp only [St.put]
 refine K26 _ ?_
 refine yS fun _ K27 => ?_
 refine yw ?_
 refine K27 _ ?_
 refine yS fun _ K28 => ?_
 refine yS fun _ K29 => ?_
 refine yR ?_
 refine yF rfl rfl rfl rfl ?_
 refine yL rfl rfl rfl ?_
 refine aa rfl (bg rfl rfl (List.length_map _)) ?_
 refine yM rfl rfl ?_
 refine yN ?_
 dsimp only [St.put]
 refine K29 _ ?_
 refine az ?_
 refine cj 89 ?_
 refine zQ ?_
 refine uiz (X := Nat × Nat × Nat × Nat × Nat × Nat × Nat) (fun z => (z.1 ≤ p.pages.length ∧ ou p z.1 = true) ∧ (nx + 5 ≤ z.2.1 ∧ nx + 5 ≤ z.2.2.2.2.1) ∧ (z.2.1 < nx + 11 ∧ z.2.2.2.2.1 < nx + 11) ∧ z.2.1 ≠ z.2.2.2.2.1) (fun z => p.pages.length - z.1) (fun z => [(13, .v (.int .i64 (fg p.pages z.1))), (16, .any), (18, .any), (19, .any), (20, .any), (21, .any), (22, .any), (88, .v (.int .i64 (z.1 : Int)))]) (fun z G' => kb p xt G nx t z.1 z.2) (fun z => nx + 5 + nt t z.1) (0, nx + 5, 0, 0, nx + 6, 0, 0) rfl ?_ ?_ (by have := ucg (Nat.not_lt_zero t); dsimp only; omega) ?_ ?_ ?_ ?_ ?_
 ·exact ⟨⟨Nat.zero_le _, rfl⟩, ⟨by (dsimp only; omega), by (dsimp only; omega)⟩, ⟨by (dsimp only; omega), by (dsimp only; omega)⟩, by (dsimp only; omega)⟩
 ·exact zF
 ·exact r8 zG zG zG zG (fun h => absurd h (Nat.not_lt_zero _)) zS
 ·rintro ⟨j, A, va, wa, B, vb, wb⟩ hI
  exact Nat.le_add_right _ _
 ·rintro ⟨j, A, va, wa, B, vb, wb⟩ hI
  exact (by (try dsimp only); repeat' (first | exact trivial | refine ⟨?_, ?_⟩ | exact .v | exact .any | refine .elem ?_ | exact ar _ _ | exact c6 _ _ | exact cw _ _ | exact cy _ (by (try dsimp only); omega) | exact .box (by (try dsimp only); omega) | exact c5 | exact cg | exact ei (gj _ _) | refine c4 ?_ ?_ | exact .arr (by (try dsimp only); omega) | exact .own (by (try dsimp only); omega) | exact .map (by (try dsimp only); omega) | exact cc _ | refine bk ?_ ?_ | exact ar _ _))
 ·rintro ⟨j, A, va, wa, B, vb, wb⟩ hI
  dsimp only
  exact ugk (Nat.le_add_right _ _) (fun q => by rw [ve q]; exact hI.2.2.1) zS
 rintro ⟨j, A, va, wa, B, vb, wb⟩ hK
 dsimp only at hK ⊢
 obtain ⟨hK, ⟨n1, n2⟩, ⟨n3, n4⟩, n5⟩ := hK
 obtain ⟨M, hM⟩ : ∃ M, nx + 5 + nt t j = M := ⟨_, rfl⟩
 have hM1 : t < j → M = nx + 11 := fun q => by rw [← hM, ve q]
 have hM0 : ¬ t < j → M = nx + 5 := fun q => by rw [← hM, ucg q]
 have hMb : nx + 5 ≤ M := by rw [← hM]; exact Nat.le_add_right _ _
 obtain ⟨f0, f1, f2, f3, fA, fG⟩ := ugl (p := p) (xt := xt) (G := G) (nx := nx) (t := t) (k := j) (y := (A, va, wa, B, vb, wb)) ⟨n1, n2⟩ n5
 obtain ⟨Gk, hGk⟩ : ∃ Gk, kb p xt G nx t j (A, va, wa, B, vb, wb) = Gk := ⟨_, rfl⟩
 rw [hGk] at f0 f1 f2 f3 fA fG
 unfold boxG at f0
 dsimp only at f0 f2 f3 fA
 rw [hM, hGk]
 have fF : Gk n = some j8 := (fG n (by omega)).trans hF
 refine ct fun hlt => ?_
 dsimp only at hlt
 refine yS fun _ K30 => ?_
 refine yR ?_
 refine aa rfl (cn rfl rfl rfl) ?_
 refine yN ?_
 dsimp only [St.put]
 refine K30 _ ?_
 refine yS fun _ K31 => ?_
 refine ak rfl (fun hc => ?_) (fun hc => ?_)
 ·replace hc := of_decide_eq_true hc
  obtain ⟨x, hx⟩ : ∃ x, p.pages[j]? = some x := cx (by omega)
  refine av ?_
  refine K31 _ ?_
  refine yS fun _ K32 => ?_
  refine az ?_
  refine yS fun _ K33 => ?_
  refine yR ?_
  refine aa rfl (bl rfl rfl rfl rfl (bn (by assumption)) (Enc.len _)) ?_
  refine yE rfl rfl rfl ?_
  try dsimp only [St.put]
  refine af rfl (eh rfl ?_)
  try dsimp only [St.put]
  refine af rfl (dt rfl rfl rfl zG rfl rfl (by rfl) ?_)
  refine yN ?_
  dsimp only [St.put]
  refine K33 _ ?_
  refine eo (i := 16) rfl zG zC ?_
  dsimp only
  refine cj 89 ?_
  refine zQ ?_
  refine ix (X := Bool) (fun d0 => d0 = lu p (fg p.pages j) x) (fun d0 => [(14, .v (.bool d0))]) (fun d0 G' => G') rfl ?_ (fun _ _ _ _ h => .inl h) ?_ ?_
  ·rintro d0 hI
   exact (by (try dsimp only); repeat' (first | exact trivial | refine ⟨?_, ?_⟩ | exact .v | exact .any | refine .elem ?_ | exact ar _ _ | exact c6 _ _ | exact cw _ _ | exact cy _ (by (try dsimp only); omega) | exact .box (by (try dsimp only); omega) | exact c5 | exact cg | exact ei (gj _ _) | refine c4 ?_ ?_ | exact .arr (by (try dsimp only); omega) | exact .own (by (try dsimp only); omega) | exact .map (by (try dsimp only); omega) | exact cc _ | refine bk ?_ ?_ | exact ar _ _))
  ·refine yR ?_
   refine yF rfl rfl rfl rfl ?_
   refine yL rfl rfl rfl ?_
   refine yM rfl rfl ?_
   refine aa rfl (gq rfl rfl rfl) ?_
   refine yM rfl rfl ?_
   refine ep (fun hs => ?_) (fun hs => ?_)
   ·have z1 : fg p.pages j < x.fr := of_decide_eq_true hs
    refine yF rfl rfl rfl rfl ?_
    refine yL rfl rfl rfl ?_
    refine yF rfl rfl rfl rfl ?_
    refine yL rfl rfl rfl ?_
    refine aa rfl (se rfl rfl rfl) ?_
    refine aa rfl (ck rfl rfl (by constructor)) ?_
    refine yM rfl rfl ?_
    refine ep (fun hs => ?_) (fun hs => ?_)
    ·have z2 : x.fr ≤ x.to := of_decide_eq_true hs
     refine yF rfl rfl rfl rfl ?_
     refine yL rfl rfl rfl ?_
     refine yM rfl rfl ?_
     refine aa rfl (cn rfl rfl rfl) ?_
     refine aa rfl (ck rfl rfl (by constructor)) ?_
     refine yA rfl rfl ?_
     refine yN ?_
     dsimp only [St.put]
     refine ⟨_, ?_, ⟨⟨rfl, rfl⟩, zF, zB, zN, zX⟩⟩
     unfold lu
     first
     | (simp [z1]; done)
     | (simp [z1, z2]; done)
     | (simp [z1]; omega)
    have z2 : ¬ x.fr ≤ x.to := of_decide_eq_false hs
    refine yK rfl ?_
    refine yK rfl ?_
    refine yK rfl ?_
    refine yK rfl ?_
    refine aa rfl (bz rfl rfl (by constructor)) ?_
    refine yA rfl rfl ?_
    refine yN ?_
    dsimp only [St.put]
    refine ⟨_, ?_, ⟨⟨rfl, rfl⟩, zF, zB, zN, zX⟩⟩
    unfold lu
    first
    | (simp [z1]; done)
    | (simp [z1, z2]; done)
    | (simp [z1]; omega)
   have z1 : ¬ fg p.pages j < x.fr := of_decide_eq_false hs
   refine yK rfl ?_
   refine yK rfl ?_
   refine yK rfl ?_
   refine yK rfl ?_
   refine yK rfl ?_
   refine aa rfl (bz rfl rfl (by constructor)) ?_
   refine yM rfl rfl ?_
   refine yK rfl ?_
   refine yK rfl ?_
   refine yK rfl ?_
   refine yK rfl ?_
   refine aa rfl (bz rfl rfl (by constructor)) ?_
   refine yA rfl rfl ?_
   refine yN ?_
   dsimp only [St.put]
   refine ⟨_, ?_, ⟨⟨rfl, rfl⟩, zF, zB, zN, zX⟩⟩
   unfold lu
   first
   | (simp [z1]; done)
   | (simp [z1, z2]; done)
   | (simp [z1]; omega)
  rintro d0 hst0
  dsimp only at hst0 ⊢
  subst hst0
  refine yS fun _ K35 => ?_
  refine yS fun _ K36 => ?_
  refine yR ?_
  try dsimp only [St.put]
  refine du rfl (tw (n := 6) (m := n) rfl rfl zG rfl) ?_
  refine yM rfl rfl ?_
  refine yN ?_
  dsimp only [St.put]
  refine K36 _ ?_
  refine az ?_
  refine cj 111 ?_
  refine zQ ?_
  refine db (Gk) zX ?_
  dsimp only
  refine c7 (X := Nat) (fun k => k ≤ 2) (fun k => 2 - k) (fun k => [(14, .v (.bool (j7 p (fg p.pages j) x k))), (18, .any), (19, .any), (20, .any), (21, .any), (22, .any), (110, .v (.int .i64 (k : Int)))]) (fun k G' => G') 0 rfl ?_ ?_ (fun _ _ h => h) ?_ ?_ ?_
  ·exact Nat.zero_le _
  ·exact zF
  ·rintro k hI
   exact (by (try dsimp only); repeat' (first | exact trivial | refine ⟨?_, ?_⟩ | exact .v | exact .any | refine .elem ?_ | exact ar _ _ | exact c6 _ _ | exact cw _ _ | exact cy _ (by (try dsimp only); omega) | exact .box (by (try dsimp only); omega) | exact c5 | exact cg | exact ei (gj _ _) | refine c4 ?_ ?_ | exact .arr (by (try dsimp only); omega) | exact .own (by (try dsimp only); omega) | exact .map (by (try dsimp only); omega) | exact cc _ | refine bk ?_ ?_ | exact ar _ _))
  ·exact fun _ _ _ _ h => .inl h
  rintro k hS
  dsimp only at hS ⊢
  refine yS fun _ K37 => ?_
  refine yR ?_
  refine aa rfl (cn rfl rfl rfl) ?_
  refine yN ?_
  dsimp only [St.put]
  refine K37 _ ?_
  refine yS fun _ K38 => ?_
  refine ak rfl (fun hc => ?_) (fun hc => ?_)
  ·replace hc := of_decide_eq_true hc
   have hk2 : k < 2 := by omega
   have hslk := hsl (decide (k = 1))
   refine av ?_
   refine K38 _ ?_
   refine yS fun _ K39 => ?_
   refine az ?_
   refine yS fun _ K40 => ?_
   refine yR ?_
   refine aa rfl (un (k := k) (m := 2) (sz := 3) rfl rfl rfl rfl hk2 (tr hk2)) ?_
   try dsimp only [St.put]
   refine af rfl (eh rfl ?_)
   try dsimp only [St.put]
   refine af rfl (dt rfl rfl rfl zG rfl rfl (by rfl) ?_)
   refine yN ?_
   dsimp only [St.put]
   refine K40 _ ?_
   refine eo (i := 18) rfl zG zC ?_
   dsimp only
   refine cj 111 ?_
   refine zQ ?_
   refine ix (X := Unit) (fun _ => True) (fun _ => [(19, .v (.int .i64 (fp (decide (k = 1)) x))), (20, lst (bu (decide (k = 1)) x))]) (fun _ G' => G') rfl ?_ (fun _ _ _ _ h => .inl h) ?_ ?_
   ·rintro _ hI
    exact (by (try dsimp only); repeat' (first | exact trivial | refine ⟨?_, ?_⟩ | exact .v | exact .any | refine .elem ?_ | exact ar _ _ | exact c6 _ _ | exact cw _ _ | exact cy _ (by (try dsimp only); omega) | exact .box (by (try dsimp only); omega) | exact c5 | exact cg | exact ei (gj _ _) | refine c4 ?_ ?_ | exact .arr (by (try dsimp only); omega) | exact .own (by (try dsimp only); omega) | exact .map (by (try dsimp only); omega) | exact cc _ | refine bk ?_ ?_ | exact ar _ _))
   ·refine f4 [(0, none), (1, none), (2, none), (4, none), (5, none), (6, none), (3, none), (7, none), (8, none), (9, none)] (fun i => [7].contains i) (fun i => [3, 7].contains i) (fun i => [0, 4, 8, 9].contains i) [] (by kernel_rfl) (by kernel_rfl) ?_
    refine ae rfl rfl rfl rfl (cb rfl rfl rfl) ?_
    try dsimp only [St.put]
    refine aw rfl rfl rfl rfl (bv rfl rfl) ?_
    try dsimp only [St.put]
    refine aw rfl rfl rfl rfl (d9 rfl rfl (Enc.len _)) ?_
    refine ae rfl rfl rfl rfl (cb rfl rfl rfl) ?_
    try dsimp only [St.put]
    refine aw rfl rfl rfl rfl (bv rfl rfl) ?_
    try dsimp only [St.put]
    refine aw rfl rfl rfl rfl (d9 rfl rfl (Enc.len _)) ?_
    refine ij ?_
    try dsimp only [St.put]
    refine g8 rfl rfl rfl (ba rfl rfl rfl (wt (decide (k = 1)) x) ⟨zD, ?_⟩)
    try dsimp only [St.put]
    refine gt rfl rfl rfl rfl (ba rfl rfl rfl (wu (decide (k = 1)) x) ?_)
    refine di rfl rfl rfl rfl (gn rfl (by constructor)) ?_
    refine di rfl rfl rfl rfl (gn rfl (by constructor)) ?_
    refine ii ?_
    dsimp only [St.put]
    exact ⟨(), trivial, ⟨⟨rfl, rfl⟩, zF, zB, zN, zX⟩⟩
   rintro _ h31
   dsimp only at h31 ⊢
   refine cj 111 ?_
   refine zQ ?_
   refine ix (X := Bool) (fun d => d = (j7 p (fg p.pages j) x k && (inB (fp (decide (k = 1)) x) (-1) (((cz p (decide (k = 1))).length : Int) - 1) && (decide (0 ≤ fp (decide (k = 1)) x) || decide (bu (decide (k = 1)) x = []))))) (fun d => [(14, .v (.bool d))]) (fun d G' => G') rfl ?_ (fun _ _ _ _ h => .inl h) ?_ ?_
   ·rintro d hI
    exact (by (try dsimp only); repeat' (first | exact trivial | refine ⟨?_, ?_⟩ | exact .v | exact .any | refine .elem ?_ | exact ar _ _ | exact c6 _ _ | exact cw _ _ | exact cy _ (by (try dsimp only); omega) | exact .box (by (try dsimp only); omega) | exact c5 | exact cg | exact ei (gj _ _) | refine c4 ?_ ?_ | exact .arr (by (try dsimp only); omega) | exact .own (by (try dsimp only); omega) | exact .map (by (try dsimp only); omega) | exact cc _ | refine bk ?_ ?_ | exact ar _ _))
   ·refine yR ?_
    refine yM rfl rfl ?_
    refine yM rfl rfl ?_
    refine ep (fun hs => ?_) (fun hs => ?_)
    ·have s0 : j7 p (fg p.pages j) x k = true := hs
     refine yF rfl rfl rfl rfl ?_
     refine yL rfl rfl rfl ?_
     refine yE rfl rfl rfl ?_
     try dsimp only [St.put]
     refine af rfl (ba rfl rfl rfl (oh (decide (k = 1)) p) ?_)
     refine aa rfl (bg rfl rfl (List.length_map _)) ?_
     refine aa rfl (gm rfl rfl rfl (by omega)) ?_
     refine yM rfl rfl ?_
     try dsimp only [St.put]
     refine af rfl (ef rfl rfl rfl (by decide) (by decide) zR (by decide) ?_)
     try dsimp only [St.put]
     refine af rfl (ba rfl rfl rfl (jh _ _ [_]) ?_)
     refine aa rfl (ck rfl rfl (by constructor)) ?_
     refine yM rfl rfl ?_
     refine ep (fun hs => ?_) (fun hs => ?_)
     ·have s1 : inB (fp (decide (k = 1)) x) (-1) (((cz p (decide (k = 1))).length : Int) - 1) = true := by rw [er] at hs; exact hs
      refine yM rfl rfl ?_
      refine aa rfl (oz rfl rfl rfl) ?_
      refine yM rfl rfl ?_
      refine ep (fun hs => ?_) (fun hs => ?_)
      ·have s2 : 0 ≤ fp (decide (k = 1)) x := of_decide_eq_true hs
       refine yK rfl ?_
       refine yK rfl ?_
       refine yK rfl ?_
       refine aa rfl (ck rfl rfl (by constructor)) ?_
       refine aa rfl (ck rfl rfl (by constructor)) ?_
       refine yA rfl rfl ?_
       refine yN ?_
       dsimp only [St.put]
       refine ⟨_, ?_, ⟨⟨rfl, rfl⟩, zF, zB, zN, zX⟩⟩
       first
       | (rw [s0]; simp; done)
       | (rw [s0, s1]; simp; done)
       | (rw [s0, s1, decide_eq_true s2]; simp; done)
       | (rw [s0, s1, decide_eq_false s2, Bool.true_and, Bool.true_and, Bool.false_or, decide_eq_decide]; exact nil_len.symm)
      have s2 : ¬ 0 ≤ fp (decide (k = 1)) x := of_decide_eq_false hs
      refine yM rfl rfl ?_
      refine aa rfl (bg rfl rfl (List.length_map _)) ?_
      refine aa rfl (ir rfl rfl rfl) ?_
      refine aa rfl (bz rfl rfl (by constructor)) ?_
      refine aa rfl (ck rfl rfl (by constructor)) ?_
      refine yA rfl rfl ?_
      refine yN ?_
      dsimp only [St.put]
      refine ⟨_, ?_, ⟨⟨rfl, rfl⟩, zF, zB, zN, zX⟩⟩
      first
      | (rw [s0]; simp; done)
      | (rw [s0, s1]; simp; done)
      | (rw [s0, s1, decide_eq_true s2]; simp; done)
      | (rw [s0, s1, decide_eq_false s2, Bool.true_and, Bool.true_and, Bool.false_or, decide_eq_decide]; exact nil_len.symm)
     have s1 : inB (fp (decide (k = 1)) x) (-1) (((cz p (decide (k = 1))).length : Int) - 1) = false := by rw [er] at hs; exact hs
     refine yK rfl ?_
     refine yK rfl ?_
     refine yK rfl ?_
     refine yK rfl ?_
     refine yK rfl ?_
     refine yK rfl ?_
     refine yK rfl ?_
     refine aa rfl (bz rfl rfl (by constructor)) ?_
     refine yA rfl rfl ?_
     refine yN ?_
     dsimp only [St.put]
     refine ⟨_, ?_, ⟨⟨rfl, rfl⟩, zF, zB, zN, zX⟩⟩
     first
     | (rw [s0]; simp; done)
     | (rw [s0, s1]; simp; done)
     | (rw [s0, s1, decide_eq_true s2]; simp; done)
     | (rw [s0, s1, decide_eq_false s2, Bool.true_and, Bool.true_and, Bool.false_or, decide_eq_decide]; exact nil_len.symm)
    have s0 : j7 p (fg p.pages j) x k = false := hs
    refine yK rfl ?_
    refine yK rfl ?_
    refine yK rfl ?_
    refine yK rfl ?_
    refine yK rfl ?_
    refine yK rfl ?_
    refine yK rfl ?_
    refine yK rfl ?_
    refine yK rfl ?_
    refine aa rfl (bz rfl rfl (by constructor)) ?_
    refine yM rfl rfl ?_
    refine yK rfl ?_
    refine yK rfl ?_
    refine yK rfl ?_
    refine yK rfl ?_
    refine yK rfl ?_
    refine yK rfl ?_
    refine yK rfl ?_
    refine aa rfl (bz rfl rfl (by constructor)) ?_
    refine yA rfl rfl ?_
    refine yN ?_
    dsimp only [St.put]
    refine ⟨_, ?_, ⟨⟨rfl, rfl⟩, zF, zB, zN, zX⟩⟩
    first
    | (rw [s0]; simp; done)
    | (rw [s0, s1]; simp; done)
    | (rw [s0, s1, decide_eq_true s2]; simp; done)
    | (rw [s0, s1, decide_eq_false s2, Bool.true_and, Bool.true_and, Bool.false_or, decide_eq_decide]; exact nil_len.symm)
   rintro d hd
   dsimp only at hd ⊢
   refine yS fun _ K43 => ?_
   refine jn 20 (fun hfit => ?_)
   have hfll := (fit_lst.1 hfit).1
   rw [show (C.v (.bool d)) = .v (.bool (d && ce p.text x (bu (decide (k = 1)) x) 0)) by simp [ce]]
   refine yR ?_
   refine yM rfl rfl ?_
   refine aa rfl (bg rfl rfl (List.length_map _)) ?_
   refine yM rfl rfl ?_
   refine yN ?_
   dsimp only [St.put]
   refine K43 _ ?_
   refine az ?_
   refine cj 145 ?_
   refine zQ ?_
   refine db (Gk) zX ?_
   dsimp only
   refine c7 (X := Nat) (fun i => i ≤ (bu (decide (k = 1)) x).length) (fun i => (bu (decide (k = 1)) x).length - i) (fun i => [(14, .v (.bool (d && ce p.text x (bu (decide (k = 1)) x) i))), (21, .any), (22, .any), (144, .v (.int .i64 (i : Int)))]) (fun i G' => G') 0 rfl ?_ ?_ (fun _ _ h => h) ?_ ?_ ?_
   ·exact Nat.zero_le _
   ·exact zF
   ·rintro i hI
    exact (by (try dsimp only); repeat' (first | exact trivial | refine ⟨?_, ?_⟩ | exact .v | exact .any | refine .elem ?_ | exact ar _ _ | exact c6 _ _ | exact cw _ _ | exact cy _ (by (try dsimp only); omega) | exact .box (by (try dsimp only); omega) | exact c5 | exact cg | exact ei (gj _ _) | refine c4 ?_ ?_ | exact .arr (by (try dsimp only); omega) | exact .own (by (try dsimp only); omega) | exact .map (by (try dsimp only); omega) | exact cc _ | refine bk ?_ ?_ | exact ar _ _))
   ·exact fun _ _ _ _ h => .inl h
   rintro i hT
   dsimp only at hT ⊢
   refine yS fun _ K44 => ?_
   refine yR ?_
   refine aa rfl (cn rfl rfl rfl) ?_
   refine yN ?_
   dsimp only [St.put]
   refine K44 _ ?_
   refine yS fun _ K45 => ?_
   refine ak rfl (fun hc => ?_) (fun hc => ?_)
   ·replace hc := of_decide_eq_true hc
    obtain ⟨q, hq⟩ : ∃ q, (bu (decide (k = 1)) x)[i]? = some q := cx (by omega)
    refine av ?_
    refine K45 _ ?_
    refine yS fun _ K46 => ?_
    refine az ?_
    refine yS fun _ K47 => ?_
    refine yR ?_
    refine yM rfl rfl ?_
    refine aa rfl (bl rfl rfl rfl rfl (bn (by assumption)) (Enc.len _)) ?_
    refine yE rfl rfl rfl ?_
    try dsimp only [St.put]
    refine af rfl (eh rfl ?_)
    refine yA rfl rfl ?_
    try dsimp only [St.put]
    refine af rfl (dt rfl rfl rfl zG rfl rfl (by rfl) ?_)
    refine yN ?_
    dsimp only [St.put]
    refine K47 _ ?_
    refine eo (i := 22) rfl zG zC ?_
    dsimp only
    refine o8 [(0, none), (1, none), (2, none), (3, none), (4, none)] (fun _ => false) (fun i => [0, 1, 2].contains i) 33 (rl [5, 33]) (by kernel_rfl) (by kernel_rfl) ?_
    refine xM rfl rfl rfl rfl rfl ?_
    refine xM rfl rfl rfl rfl rfl ?_
    refine il (fun hs => ?_) (fun hs => ?_)
    ·have w0 : (d && ce p.text x (bu (decide (k = 1)) x) i) = true := hs
     refine ae rfl rfl rfl rfl (cb rfl rfl rfl) ?_
     try dsimp only [St.put]
     refine aw rfl rfl rfl rfl (c := eu p.text) (im (cs := cells p) rfl rfl (show 1 ≤ 4 by decide)) ?_
     try dsimp only [St.put]
     refine aw rfl rfl rfl rfl (d9 rfl rfl (Enc.len _)) ?_
     refine bq ?_
     refine dc [5] (by kernel_rfl) (by simp) ?_
     refine dg ?_ ?_
     ·try dsimp only [St.put]
      refine gu rfl rfl rfl (ba rfl rfl rfl (ua0 p.text q ht) ?_)
      refine d8 [(6, none), (7, none), (8, none), (9, none), (10, none), (11, none), (12, none), (13, none), (14, none), (15, none), (16, none), (17, none), (18, none), (19, none)] (fun i => [6, 7, 8, 10, 12, 13, 15, 17, 19].contains i) 18 (rl [20, 18]) (by kernel_rfl) ?_
      refine ae rfl rfl rfl rfl (ck rfl rfl (by constructor)) ?_
      refine xM rfl rfl rfl rfl rfl ?_
      refine il (fun hs => ?_) (fun hs => ?_)
      ·have w1 : ey p.text q = true := hs
       obtain ⟨kq, nq, wq, cq, lq, hqe, hq1, hq2, hq3⟩ := w5 w1
       have hkl := (List.getElem?_eq_some_iff.1 hq1).1
       have hnl := (List.getElem?_eq_some_iff.1 hq2).1
       have hcl := (hl3 cq (ez hq1)).2.1
       have hst := rr (t := p.text) (k := p.text.length) (i := kq) hkl
       have hsb := og ht kq (by omega)
       have hqc : q.ch = (kq : Int) := by rw [hqe]
       have hql : q.ln = (nq : Int) := by rw [hqe]
       refine ae rfl rfl rfl rfl (cb rfl rfl rfl) ?_
       try dsimp only [St.put]
       refine aw rfl rfl rfl rfl (bv rfl rfl) ?_
       refine ae rfl rfl rfl rfl (cb rfl rfl rfl) ?_
       try dsimp only [St.put]
       refine aw rfl rfl rfl rfl (bv rfl rfl) ?_
       refine xM rfl rfl rfl rfl rfl ?_
       refine ae rfl rfl rfl rfl (cb rfl rfl rfl) ?_
       try dsimp only [St.put]
       refine aw rfl rfl rfl rfl (bv rfl rfl) ?_
       try dsimp only [St.put]
       refine ae rfl rfl rfl rfl (bl rfl rfl rfl (by omega) (bn (by assumption)) (Enc.len _)) ?_
       try dsimp only [St.put]
       refine aw rfl rfl rfl rfl (bv rfl rfl) ?_
       refine ae rfl rfl rfl rfl (cb rfl rfl rfl) ?_
       try dsimp only [St.put]
       refine aw rfl rfl rfl rfl (bv rfl rfl) ?_
       refine ae rfl rfl rfl rfl (br rfl rfl rfl (by omega)) ?_
       refine bq ?_
       refine dc [20] (by kernel_rfl) (by simp) ?_
       refine dg ?_ ?_
       ·try dsimp only [St.put]
        refine gu rfl rfl rfl (ef rfl rfl rfl (by decide) (by decide) zR (by decide) ?_)
        refine dc [21] (by kernel_rfl) (by simp) ?_
        refine dg ?_ ?_
        ·try dsimp only [St.put]
         refine gu rfl rfl rfl (ba rfl rfl rfl (jh _ _ [_]) ?_)
         refine d8 [(22, none), (23, none), (24, none), (25, none), (26, none), (27, none), (28, none), (29, none), (30, none), (31, none), (32, none)] (fun i => [22, 23, 24, 25, 26, 27, 28, 29, 30].contains i) 5 (rl [33, 5]) (by kernel_rfl) ?_
         refine ae rfl rfl rfl rfl (ck rfl rfl (by constructor)) ?_
         refine xM rfl rfl rfl rfl rfl ?_
         refine il (fun hs => ?_) (fun hs => ?_)
         ·have w2 : el p.text x q = true := by
           rw [er] at hs
           unfold el nk
           rw [hqc, Int.toNat_natCast, Int.add_comm]; exact hs
          refine xM rfl rfl rfl rfl rfl ?_
          refine ae rfl rfl rfl rfl (ir rfl rfl rfl) ?_
          refine xM rfl rfl rfl rfl rfl ?_
          refine il (fun hs => ?_) (fun hs => ?_)
          ·have w3 : i = 0 := by have := of_decide_eq_true hs; omega
           refine ah rfl rfl rfl ?_
           refine ah rfl rfl rfl ?_
           refine ah rfl rfl rfl ?_
           refine ah rfl rfl rfl ?_
           refine ah rfl rfl rfl ?_
           refine ah rfl rfl rfl ?_
           refine bq ?_
           refine dc [33] (by kernel_rfl) (by simp) ?_
           refine dg ?_ ?_
           ·refine fa rfl rfl rfl ?_
            refine d8 [(34, none), (35, none), (36, none), (37, none)] (fun i => [34, 35, 36, 37].contains i) 0 (rl [38]) (by kernel_rfl) ?_
            refine ah rfl rfl rfl ?_
            refine ae rfl rfl rfl rfl (ck rfl rfl (by constructor)) ?_
            refine ae rfl rfl rfl rfl (ck rfl rfl (by constructor)) ?_
            refine ae rfl rfl rfl rfl (gn rfl (by constructor)) ?_
            refine bq ?_
            dsimp only [St.put]
            refine ge (by kernel_rfl) ?_
            refine K46 _ ?_
            refine yR ?_
            refine aa rfl (br rfl rfl rfl (by omega)) ?_
            refine yM rfl rfl ?_
            refine yN ?_
            dsimp only [St.put]
            refine ⟨i + 1, by omega, by omega, ?_⟩
            try dsimp only
            first
            | (rw [show (d && ce p.text x (bu (decide (k = 1)) x) (i + 1)) = false by rw [d7, ← Bool.and_assoc, show (d && ce p.text x (bu (decide (k = 1)) x) i) = false from w0, Bool.false_and]]
               exact ⟨⟨rfl, rfl⟩, zF, zB, zN, zX⟩)
            | (rw [show (d && ce p.text x (bu (decide (k = 1)) x) (i + 1)) = false by rw [d7, e8 hq, show ey p.text q = false from w1]; simp]
               exact ⟨⟨rfl, rfl⟩, zF, zB, zN, zX⟩)
            | (rw [show (d && ce p.text x (bu (decide (k = 1)) x) (i + 1)) = false by rw [d7, e8 hq, show el p.text x q = false from w2]; simp]
               exact ⟨⟨rfl, rfl⟩, zF, zB, zN, zX⟩)
            | (rw [show (d && ce p.text x (bu (decide (k = 1)) x) (i + 1)) = true by rw [d7, ← Bool.and_assoc, show (d && ce p.text x (bu (decide (k = 1)) x) i) = true from w0, e8 hq, w1, w2, decide_eq_true (show i = 0 from w3)]; rfl]
               exact ⟨⟨rfl, rfl⟩, zF, zB, zN, zX⟩)
            | (rw [show (d && ce p.text x (bu (decide (k = 1)) x) (i + 1)) = decide (ig a q < 0) by rw [d7, ← Bool.and_assoc, show (d && ce p.text x (bu (decide (k = 1)) x) i) = true from w0, e8 hq, w1, w2, decide_eq_false (show ¬ i = 0 from w3), ha]; rfl]
               exact ⟨⟨rfl, rfl⟩, zF, zB, zN, zX⟩)
           exact dd
          have w3 : ¬ i = 0 := by have := of_decide_eq_false hs; omega
          obtain ⟨a, ha⟩ : ∃ a, (bu (decide (k = 1)) x)[i - 1]? = some a := cx (by omega)
          refine xM rfl rfl rfl rfl rfl ?_
          refine xM rfl rfl rfl rfl rfl ?_
          refine ae rfl rfl rfl rfl (gm rfl rfl rfl (by omega)) ?_
          try dsimp only [St.put]
          refine ae rfl rfl rfl rfl (bl (k := i - 1) rfl rfl rfl (by omega) (bn ha) (Enc.len _)) ?_
          try dsimp only [St.put]
          refine aw rfl rfl rfl rfl (d9 rfl rfl (Enc.len _)) ?_
          try dsimp only [St.put]
          refine aw rfl rfl rfl rfl (d9 rfl rfl (Enc.len _)) ?_
          refine bq ?_
          refine dc [33] (by kernel_rfl) (by simp) ?_
          refine dg ?_ ?_
          ·try dsimp only [St.put]
           refine gu rfl rfl rfl (ba rfl rfl rfl (ov a q) ?_)
           refine d8 [(34, none), (35, none), (36, none), (37, none)] (fun i => [34, 35, 36, 37].contains i) 0 (rl [38]) (by kernel_rfl) ?_
           refine ae rfl rfl rfl rfl (cn rfl rfl rfl) ?_
           refine ae rfl rfl rfl rfl (bz rfl rfl (by constructor)) ?_
           refine ae rfl rfl rfl rfl (ck rfl rfl (by constructor)) ?_
           refine ae rfl rfl rfl rfl (gn rfl (by constructor)) ?_
           refine bq ?_
           dsimp only [St.put]
           refine ge (by kernel_rfl) ?_
           refine K46 _ ?_
           refine yR ?_
           refine aa rfl (br rfl rfl rfl (by omega)) ?_
           refine yM rfl rfl ?_
           refine yN ?_
           dsimp only [St.put]
           refine ⟨i + 1, by omega, by omega, ?_⟩
           try dsimp only
           first
           | (rw [show (d && ce p.text x (bu (decide (k = 1)) x) (i + 1)) = false by rw [d7, ← Bool.and_assoc, show (d && ce p.text x (bu (decide (k = 1)) x) i) = false from w0, Bool.false_and]]
              exact ⟨⟨rfl, rfl⟩, zF, zB, zN, zX⟩)
           | (rw [show (d && ce p.text x (bu (decide (k = 1)) x) (i + 1)) = false by rw [d7, e8 hq, show ey p.text q = false from w1]; simp]
              exact ⟨⟨rfl, rfl⟩, zF, zB, zN, zX⟩)
           | (rw [show (d && ce p.text x (bu (decide (k = 1)) x) (i + 1)) = false by rw [d7, e8 hq, show el p.text x q = false from w2]; simp]
              exact ⟨⟨rfl, rfl⟩, zF, zB, zN, zX⟩)
           | (rw [show (d && ce p.text x (bu (decide (k = 1)) x) (i + 1)) = true by rw [d7, ← Bool.and_assoc, show (d && ce p.text x (bu (decide (k = 1)) x) i) = true from w0, e8 hq, w1, w2, decide_eq_true (show i = 0 from w3)]; rfl]
              exact ⟨⟨rfl, rfl⟩, zF, zB, zN, zX⟩)
           | (rw [show (d && ce p.text x (bu (decide (k = 1)) x) (i + 1)) = decide (ig a q < 0) by rw [d7, ← Bool.and_assoc, show (d && ce p.text x (bu (decide (k = 1)) x) i) = true from w0, e8 hq, w1, w2, decide_eq_false (show ¬ i = 0 from w3), ha]; rfl]
              exact ⟨⟨rfl, rfl⟩, zF, zB, zN, zX⟩)
          exact dd
         have w2 : el p.text x q = false := by
          rw [er] at hs
          unfold el nk
          rw [hqc, Int.toNat_natCast, Int.add_comm]; exact hs
         refine ah rfl rfl rfl ?_
         refine ah rfl rfl rfl ?_
         refine ah rfl rfl rfl ?_
         refine ah rfl rfl rfl ?_
         refine ah rfl rfl rfl ?_
         refine ah rfl rfl rfl ?_
         refine ah rfl rfl rfl ?_
         refine ah rfl rfl rfl ?_
         refine ah rfl rfl rfl ?_
         refine bq ?_
         refine dc [33] (by kernel_rfl) (by simp) ?_
         refine dg ?_ ?_
         ·refine fa rfl rfl rfl ?_
          refine d8 [(34, none), (35, none), (36, none), (37, none)] (fun i => [34, 35, 36, 37].contains i) 0 (rl [38]) (by kernel_rfl) ?_
          refine ah rfl rfl rfl ?_
          refine ah rfl rfl rfl ?_
          refine ae rfl rfl rfl rfl (bz rfl rfl (by constructor)) ?_
          refine ae rfl rfl rfl rfl (gn rfl (by constructor)) ?_
          refine bq ?_
          dsimp only [St.put]
          refine ge (by kernel_rfl) ?_
          refine K46 _ ?_
          refine yR ?_
          refine aa rfl (br rfl rfl rfl (by omega)) ?_
          refine yM rfl rfl ?_
          refine yN ?_
          dsimp only [St.put]
          refine ⟨i + 1, by omega, by omega, ?_⟩
          try dsimp only
          first
          | (rw [show (d && ce p.text x (bu (decide (k = 1)) x) (i + 1)) = false by rw [d7, ← Bool.and_assoc, show (d && ce p.text x (bu (decide (k = 1)) x) i) = false from w0, Bool.false_and]]
             exact ⟨⟨rfl, rfl⟩, zF, zB, zN, zX⟩)
          | (rw [show (d && ce p.text x (bu (decide (k = 1)) x) (i + 1)) = false by rw [d7, e8 hq, show ey p.text q = false from w1]; simp]
             exact ⟨⟨rfl, rfl⟩, zF, zB, zN, zX⟩)
          | (rw [show (d && ce p.text x (bu (decide (k = 1)) x) (i + 1)) = false by rw [d7, e8 hq, show el p.text x q = false from w2]; simp]
             exact ⟨⟨rfl, rfl⟩, zF, zB, zN, zX⟩)
          | (rw [show (d && ce p.text x (bu (decide (k = 1)) x) (i + 1)) = true by rw [d7, ← Bool.and_assoc, show (d && ce p.text x (bu (decide (k = 1)) x) i) = true from w0, e8 hq, w1, w2, decide_eq_true (show i = 0 from w3)]; rfl]
             exact ⟨⟨rfl, rfl⟩, zF, zB, zN, zX⟩)
          | (rw [show (d && ce p.text x (bu (decide (k = 1)) x) (i + 1)) = decide (ig a q < 0) by rw [d7, ← Bool.and_assoc, show (d && ce p.text x (bu (decide (k = 1)) x) i) = true from w0, e8 hq, w1, w2, decide_eq_false (show ¬ i = 0 from w3), ha]; rfl]
             exact ⟨⟨rfl, rfl⟩, zF, zB, zN, zX⟩)
         exact dd
        exact dd
       exact dd
      have w1 : ey p.text q = false := hs
      refine ah rfl rfl rfl ?_
      refine ah rfl rfl rfl ?_
      refine ah rfl rfl rfl ?_
      refine ah rfl rfl rfl ?_
      refine ah rfl rfl rfl ?_
      refine ah rfl rfl rfl ?_
      refine ah rfl rfl rfl ?_
      refine ah rfl rfl rfl ?_
      refine ah rfl rfl rfl ?_
      refine ah rfl rfl rfl ?_
      refine ah rfl rfl rfl ?_
      refine ah rfl rfl rfl ?_
      refine bq ?_
      refine dc [20] (by kernel_rfl) (by simp) ?_
      refine dg ?_ ?_
      ·refine fa rfl rfl rfl ?_
       refine dc [21] (by kernel_rfl) (by simp) ?_
       refine dg ?_ ?_
       ·refine fa rfl rfl rfl ?_
        refine d8 [(22, none), (23, none), (24, none), (25, none), (26, none), (27, none), (28, none), (29, none), (30, none), (31, none), (32, none)] (fun i => [22, 23, 24, 25, 26, 27, 28, 29, 30].contains i) 5 (rl [33, 5]) (by kernel_rfl) ?_
        refine ae rfl rfl rfl rfl (bz rfl rfl (by constructor)) ?_
        refine xM rfl rfl rfl rfl rfl ?_
        refine ah rfl rfl rfl ?_
        refine ah rfl rfl rfl ?_
        refine ah rfl rfl rfl ?_
        refine ah rfl rfl rfl ?_
        refine ah rfl rfl rfl ?_
        refine ah rfl rfl rfl ?_
        refine ah rfl rfl rfl ?_
        refine ah rfl rfl rfl ?_
        refine ah rfl rfl rfl ?_
        refine bq ?_
        refine dc [33] (by kernel_rfl) (by simp) ?_
        refine dg ?_ ?_
        ·refine fa rfl rfl rfl ?_
         refine d8 [(34, none), (35, none), (36, none), (37, none)] (fun i => [34, 35, 36, 37].contains i) 0 (rl [38]) (by kernel_rfl) ?_
         refine ah rfl rfl rfl ?_
         refine ah rfl rfl rfl ?_
         refine ae rfl rfl rfl rfl (bz rfl rfl (by constructor)) ?_
         refine ae rfl rfl rfl rfl (gn rfl (by constructor)) ?_
         refine bq ?_
         dsimp only [St.put]
         refine ge (by kernel_rfl) ?_
         refine K46 _ ?_
         refine yR ?_
         refine aa rfl (br rfl rfl rfl (by omega)) ?_
         refine yM rfl rfl ?_
         refine yN ?_
         dsimp only [St.put]
         refine ⟨i + 1, by omega, by omega, ?_⟩
         try dsimp only
         first
         | (rw [show (d && ce p.text x (bu (decide (k = 1)) x) (i + 1)) = false by rw [d7, ← Bool.and_assoc, show (d && ce p.text x (bu (decide (k = 1)) x) i) = false from w0, Bool.false_and]]
            exact ⟨⟨rfl, rfl⟩, zF, zB, zN, zX⟩)
         | (rw [show (d && ce p.text x (bu (decide (k = 1)) x) (i + 1)) = false by rw [d7, e8 hq, show ey p.text q = false from w1]; simp]
            exact ⟨⟨rfl, rfl⟩, zF, zB, zN, zX⟩)
         | (rw [show (d && ce p.text x (bu (decide (k = 1)) x) (i + 1)) = false by rw [d7, e8 hq, show el p.text x q = false from w2]; simp]
            exact ⟨⟨rfl, rfl⟩, zF, zB, zN, zX⟩)
         | (rw [show (d && ce p.text x (bu (decide (k = 1)) x) (i + 1)) = true by rw [d7, ← Bool.and_assoc, show (d && ce p.text x (bu (decide (k = 1)) x) i) = true from w0, e8 hq, w1, w2, decide_eq_true (show i = 0 from w3)]; rfl]
            exact ⟨⟨rfl, rfl⟩, zF, zB, zN, zX⟩)
         | (rw [show (d && ce p.text x (bu (decide (k = 1)) x) (i + 1)) = decide (ig a q < 0) by rw [d7, ← Bool.and_assoc, show (d && ce p.text x (bu (decide (k = 1)) x) i) = true from w0, e8 hq, w1, w2, decide_eq_false (show ¬ i = 0 from w3), ha]; rfl]
            exact ⟨⟨rfl, rfl⟩, zF, zB, zN, zX⟩)
        exact dd
       exact dd
      exact dd
     exact dd
    have w0 : (d && ce p.text x (bu (decide (k = 1)) x) i) = false := hs
    refine ah rfl rfl rfl ?_
    refine ah rfl rfl rfl ?_
    refine ah rfl rfl rfl ?_
    refine bq ?_
    refine dc [5] (by kernel_rfl) (by simp) ?_
    refine dg ?_ ?_
    ·refine fa rfl rfl rfl ?_
     refine d8 [(6, none), (7, none), (8, none), (9, none), (10, none), (11, none), (12, none), (13, none), (14, none), (15, none), (16, none), (17, none), (18, none), (19, none)] (fun i => [6, 7, 8, 10, 12, 13, 15, 17, 19].contains i) 18 (rl [20, 18]) (by kernel_rfl) ?_
     refine ae rfl rfl rfl rfl (bz rfl rfl (by constructor)) ?_
     refine xM rfl rfl rfl rfl rfl ?_
     refine ah rfl rfl rfl ?_
     refine ah rfl rfl rfl ?_
     refine ah rfl rfl rfl ?_
     refine ah rfl rfl rfl ?_
     refine ah rfl rfl rfl ?_
     refine ah rfl rfl rfl ?_
     refine ah rfl rfl rfl ?_
     refine ah rfl rfl rfl ?_
     refine ah rfl rfl rfl ?_
     refine ah rfl rfl rfl ?_
     refine ah rfl rfl rfl ?_
     refine ah rfl rfl rfl ?_
     refine bq ?_
     refine dc [20] (by kernel_rfl) (by simp) ?_
     refine dg ?_ ?_
     ·refine fa rfl rfl rfl ?_
      refine dc [21] (by kernel_rfl) (by simp) ?_
      refine dg ?_ ?_
      ·refine fa rfl rfl rfl ?_
       refine d8 [(22, none), (23, none), (24, none), (25, none), (26, none), (27, none), (28, none), (29, none), (30, none), (31, none), (32, none)] (fun i => [22, 23, 24, 25, 26, 27, 28, 29, 30].contains i) 5 (rl [33, 5]) (by kernel_rfl) ?_
       refine ae rfl rfl rfl rfl (bz rfl rfl (by constructor)) ?_
       refine xM rfl rfl rfl rfl rfl ?_
       refine ah rfl rfl rfl ?_
       refine ah rfl rfl rfl ?_
       refine ah rfl rfl rfl ?_
       refine ah rfl rfl rfl ?_
       refine ah rfl rfl rfl ?_
       refine ah rfl rfl rfl ?_
       refine ah rfl rfl rfl ?_
       refine ah rfl rfl rfl ?_
       refine ah rfl rfl rfl ?_
       refine bq ?_
       refine dc [33] (by kernel_rfl) (by simp) ?_
       refine dg ?_ ?_
       ·refine fa rfl rfl rfl ?_
        refine d8 [(34, none), (35, none), (36, none), (37, none)] (fun i => [34, 35, 36, 37].contains i) 0 (rl [38]) (by kernel_rfl) ?_
        refine ah rfl rfl rfl ?_
        refine ah rfl rfl rfl ?_
        refine ae rfl rfl rfl rfl (bz rfl rfl (by constructor)) ?_
        refine ae rfl rfl rfl rfl (gn rfl (by constructor)) ?_
        refine bq ?_
        dsimp only [St.put]
        refine ge (by kernel_rfl) ?_
        refine K46 _ ?_
        refine yR ?_
        refine aa rfl (br rfl rfl rfl (by omega)) ?_
        refine yM rfl rfl ?_
        refine yN ?_
        dsimp only [St.put]
        refine ⟨i + 1, by omega, by omega, ?_⟩
        try dsimp only
        first
        | (rw [show (d && ce p.text x (bu (decide (k = 1)) x) (i + 1)) = false by rw [d7, ← Bool.and_assoc, show (d && ce p.text x (bu (decide (k = 1)) x) i) = false from w0, Bool.false_and]]
           exact ⟨⟨rfl, rfl⟩, zF, zB, zN, zX⟩)
        | (rw [show (d && ce p.text x (bu (decide (k = 1)) x) (i + 1)) = false by rw [d7, e8 hq, show ey p.text q = false from w1]; simp]
           exact ⟨⟨rfl, rfl⟩, zF, zB, zN, zX⟩)
        | (rw [show (d && ce p.text x (bu (decide (k = 1)) x) (i + 1)) = false by rw [d7, e8 hq, show el p.text x q = false from w2]; simp]
           exact ⟨⟨rfl, rfl⟩, zF, zB, zN, zX⟩)
        | (rw [show (d && ce p.text x (bu (decide (k = 1)) x) (i + 1)) = true by rw [d7, ← Bool.and_assoc, show (d && ce p.text x (bu (decide (k = 1)) x) i) = true from w0, e8 hq, w1, w2, decide_eq_true (show i = 0 from w3)]; rfl]
           exact ⟨⟨rfl, rfl⟩, zF, zB, zN, zX⟩)
        | (rw [show (d && ce p.text x (bu (decide (k = 1)) x) (i + 1)) = decide (ig a q < 0) by rw [d7, ← Bool.and_assoc, show (d && ce p.text x (bu (decide (k = 1)) x) i) = true from w0, e8 hq, w1, w2, decide_eq_false (show ¬ i = 0 from w3), ha]; rfl]
           exact ⟨⟨rfl, rfl⟩, zF, zB, zN, zX⟩)
       exact dd
      exact dd
     exact dd
    exact dd
   replace hc := of_decide_eq_false hc
   obtain rfl : i = (bu (decide (k = 1)) x).length := by omega
   refine cr ?_
   refine K39 _ ?_
   refine yR ?_
   refine aa rfl (br rfl rfl rfl (by omega)) ?_
   refine yM rfl rfl ?_
   refine yN ?_
   dsimp only [St.put]
   rw [show (d && ce p.text x (bu (decide (k = 1)) x) (bu (decide (k = 1)) x).length) = j7 p (fg p.pages j) x (k + 1) by rw [hd]; simp only [j7, p7, gr, Bool.and_assoc]]
   exact ⟨k + 1, by omega, by omega, ⟨⟨rfl, rfl⟩, zF, zB, zN, zX⟩⟩
  replace hc := of_decide_eq_false hc
  obtain rfl : k = 2 := by omega
  rw [zo]
  refine cr ?_
  refine K35 _ ?_
  refine yS fun _ K48 => ?_
  refine yS fun _ K49 => ?_
  refine yR ?_
  refine yM rfl rfl ?_
  refine aa rfl (dv rfl rfl) ?_
  refine yN ?_
  dsimp only [St.put]
  refine K49 _ ?_
  refine ak rfl (fun hc => ?_) (fun hc => ?_)
  ·have hpg : ka p (fg p.pages j) x = false := by simpa using hc
   exact absurd (ry hx hpg) (by rw [hpB]; decide)
  have hpg : ka p (fg p.pages j) x = true := by simpa using hc
  have hpo := pageB_true.1 hpg
  rw [hpg]
  refine av ?_
  refine K48 _ ?_
  refine yS fun _ K50 => ?_
  refine yR ?_
  refine yF rfl rfl rfl rfl ?_
  refine yL rfl rfl rfl ?_
  refine yA rfl rfl ?_
  refine yN ?_
  dsimp only [St.put]
  refine K50 _ ?_
  by_cases hjt : j = t
  ·have hMe := hM0 (by omega)
   have hxx : x = xt := Option.some.inj (hx.symm.trans (hjt ▸ hxt))
   refine yR ?_
   refine yM rfl rfl ?_
   refine yE rfl rfl rfl ?_
   refine yM rfl rfl ?_
   try dsimp only [St.put]
   refine af rfl (qx rfl rfl rfl (ujc p (fg p.pages j) x ((p.pages.take j).map fun x => (dw p.text x : Int)) (fm (ca p.text) p.pages t (.own A va (ca p.text xt).length) j) (fm (bf p.text) p.pages t (.own B vb (bf p.text xt).length) j) (uc _ _ _ _ _) (uc _ _ _ _ _) (nx + 1) (nx + 1 + 1) (nx + 1 + 1 + 1) (nx + 1 + 1 + 1 + 1) (j + j + j) ht hpo (by rw [List.length_map, List.length_take]; omega) (by rw [ub]; omega) (by rw [ub]; omega) _ _ (oo fun q => .own (by dsimp only [St.put]; omega)) (oo fun q => .own (by dsimp only [St.put]; omega)) (by dsimp only [St.put]; omega) (by dsimp only [St.put]; omega) (by dsimp only [St.put]; omega) (by dsimp only [St.put]; omega) (by omega) (by omega) (by omega) (by omega) (by omega) (by omega) zG zG zG zG) (fun ⟨A2, va2, wa2, B2, vb2, wb2⟩ ⟨⟨i1, i2⟩, ⟨j1, j2⟩, k1⟩ => ?_))
   refine yN ?_
   dsimp only [St.put]
   dsimp only at i1 i2 j1 j2 k1
   refine K32 _ ?_
   refine yR ?_
   refine aa rfl (br rfl rfl rfl (by omega)) ?_
   refine yM rfl rfl ?_
   refine yN ?_
   dsimp only [St.put]
   first
   | (subst hxx
      rw [ud (c' := .own A2 va2 (ca p.text x).length) hx hjt, ud (c' := .own B2 vb2 (bf p.text x).length) hx hjt, show j + j + j + 1 + 1 + 1 = (j + 1) + (j + 1) + (j + 1) by omega, ← lf (f := fun x => (dw p.text x : Int)) hx, ← qm hx]
      exact ⟨(j + 1, A2, va2, wa2, B2, vb2, wb2), by (dsimp only; omega), ⟨⟨by (dsimp only; omega), by rw [qa, hK.2, pg hx, hpg]; rfl⟩, ⟨by (dsimp only; omega), by (dsimp only; omega)⟩, ⟨by (dsimp only; omega), by (dsimp only; omega)⟩, by (dsimp only; omega)⟩, ⟨⟨rfl, rfl⟩, zF, zB, (by have := ve (show t < j + 1 by omega); dsimp only; omega), r8 zG zG zG zG (fun _ => ⟨zG, zG⟩) (fun m o h => by have q0 := hlt0 m o h; have q1 := (fG m (by omega)).trans h; exact zG)⟩⟩)
   | (rw [ua (f := ca p.text) hx hjt, ua (f := bf p.text) hx hjt, show j + j + j + 1 + 1 + 1 = (j + 1) + (j + 1) + (j + 1) by omega, ← lf (f := fun x => (dw p.text x : Int)) hx, ← qm hx]
      exact ⟨(j + 1, A, va, wa, B, vb, wb), by (dsimp only; omega), ⟨⟨by (dsimp only; omega), by rw [qa, hK.2, pg hx, hpg]; rfl⟩, ⟨by (dsimp only; omega), by (dsimp only; omega)⟩, ⟨by (dsimp only; omega), by (dsimp only; omega)⟩, by (dsimp only; omega)⟩, ⟨⟨rfl, rfl⟩, zF, zB, (by rw [uch hjt]; dsimp only; omega), r8 zG zG zG zG (fun q => ⟨(by have q1 := (fA (by omega)).1; exact zG), (by have q1 := (fA (by omega)).2; exact zG)⟩) (fun m o h => by have q0 := hlt0 m o h; have q1 := (fG m (by omega)).trans h; exact zG)⟩⟩)
  refine yR ?_
  refine yM rfl rfl ?_
  refine yE rfl rfl rfl ?_
  refine yM rfl rfl ?_
  try dsimp only [St.put]
  refine af rfl (sv rfl rfl rfl (ujd p (fg p.pages j) x ((p.pages.take j).map fun x => (dw p.text x : Int)) (fm (ca p.text) p.pages t (.own A va (ca p.text xt).length) j) (fm (bf p.text) p.pages t (.own B vb (bf p.text xt).length) j) (uc _ _ _ _ _) (uc _ _ _ _ _) (nx + 1) (nx + 1 + 1) (nx + 1 + 1 + 1) (nx + 1 + 1 + 1 + 1) (j + j + j) ht hpo (by rw [List.length_map, List.length_take]; omega) (by rw [ub]; omega) (by rw [ub]; omega) _ _ (oo fun q => .own (by dsimp only [St.put]; omega)) (oo fun q => .own (by dsimp only [St.put]; omega)) (by dsimp only [St.put]; omega) (by dsimp only [St.put]; omega) (by dsimp only [St.put]; omega) (by dsimp only [St.put]; omega) (by omega) (by omega) (by omega) (by omega) (by omega) (by omega) zG zG zG zG) ?_)
  refine yN ?_
  dsimp only [St.put]
  refine K32 _ ?_
  refine yR ?_
  refine aa rfl (br rfl rfl rfl (by omega)) ?_
  refine yM rfl rfl ?_
  refine yN ?_
  dsimp only [St.put]
  first
  | (subst hxx
     rw [ud (c' := .own A2 va2 (ca p.text x).length) hx hjt, ud (c' := .own B2 vb2 (bf p.text x).length) hx hjt, show j + j + j + 1 + 1 + 1 = (j + 1) + (j + 1) + (j + 1) by omega, ← lf (f := fun x => (dw p.text x : Int)) hx, ← qm hx]
     exact ⟨(j + 1, A2, va2, wa2, B2, vb2, wb2), by (dsimp only; omega), ⟨⟨by (dsimp only; omega), by rw [qa, hK.2, pg hx, hpg]; rfl⟩, ⟨by (dsimp only; omega), by (dsimp only; omega)⟩, ⟨by (dsimp only; omega), by (dsimp only; omega)⟩, by (dsimp only; omega)⟩, ⟨⟨rfl, rfl⟩, zF, zB, (by have := ve (show t < j + 1 by omega); dsimp only; omega), r8 zG zG zG zG (fun _ => ⟨zG, zG⟩) (fun m o h => by have q0 := hlt0 m o h; have q1 := (fG m (by omega)).trans h; exact zG)⟩⟩)
  | (rw [ua (f := ca p.text) hx hjt, ua (f := bf p.text) hx hjt, show j + j + j + 1 + 1 + 1 = (j + 1) + (j + 1) + (j + 1) by omega, ← lf (f := fun x => (dw p.text x : Int)) hx, ← qm hx]
     exact ⟨(j + 1, A, va, wa, B, vb, wb), by (dsimp only; omega), ⟨⟨by (dsimp only; omega), by rw [qa, hK.2, pg hx, hpg]; rfl⟩, ⟨by (dsimp only; omega), by (dsimp only; omega)⟩, ⟨by (dsimp only; omega), by (dsimp only; omega)⟩, by (dsimp only; omega)⟩, ⟨⟨rfl, rfl⟩, zF, zB, (by rw [uch hjt]; dsimp only; omega), r8 zG zG zG zG (fun q => ⟨(by have q1 := (fA (by omega)).1; exact zG), (by have q1 := (fA (by omega)).2; exact zG)⟩) (fun m o h => by have q0 := hlt0 m o h; have q1 := (fG m (by omega)).trans h; exact zG)⟩⟩)
 replace hc := of_decide_eq_false hc
 obtain rfl : j = p.pages.length := by omega
 have hM10 := hM1 htl
 obtain ⟨fA1, fA2⟩ := fA htl
 rw [List.take_length] at f0
 refine cr ?_
 refine K28 _ ?_
 refine yS fun _ K51 => ?_
 refine yS fun _ K52 => ?_
 refine yR ?_
 refine yM rfl rfl ?_
 refine aa rfl (dv rfl rfl) ?_
 refine yN ?_
 dsimp only [St.put]
 refine K52 _ ?_
 refine ak rfl (fun h => by cases h) (fun _ => ?_)
 refine av ?_
 refine K51 _ ?_
 refine yS fun _ K53 => ?_
 refine yu (nx + 1) _ [lst p.text, lst p.firsts, lst p.seconds, lst p.pages, lst (p.pages.map fun x => (dw p.text x : Int)), .list (fm (ca p.text) p.pages t (.own A va (ca p.text xt).length) p.pages.length) .none, .list (fm (bf p.text) p.pages t (.own B vb (bf p.text xt).length) p.pages.length) .none] zG zW ?_
 refine eo (i := 12) rfl zG (by simp) ?_
 dsimp only
 refine yR ?_
 refine yM rfl rfl ?_
 refine yA rfl rfl ?_
 refine yA rfl rfl ?_
 refine yN ?_
 dsimp only [St.put]
 refine K53 _ ?_
 refine ax ?_
 refine ⟨(A, va, wa, B, vb, wb), ⟨⟨by (dsimp only; omega), by (dsimp only; omega)⟩, ⟨n3, n4⟩, n5⟩, ?_⟩
 refine iv rfl (fl (by constructor)) (fl (by constructor)) zN (jw zG (jw zG (fun m o h => by have q0 := hlt0 m o h; have q1 := (fG m (by omega)).trans h; exact zG))) ?_ ?_
 ·exact zW
 exact zW
end Go.Proofs.YtgffhbbcpgdjjaaDoor
namespace Go.Proofs.YtgffhbbcpgdjjaaDoor
set_option maxRecDepth 10000
open Go Go.RowKit Go.AB
open Go.AB.Enc (cells)
open Go.PB (ay aj PlaceD bh bj bi bx aq am cv co dq dp)
theorem uaz (n : Nat) (p : am) (t : Nat) (xt : aq) (hC : em p = 0) (hxt : p.pages[t]? = some xt) (G : Nat → Option GObj) (nx : Nat) (hF : G n = some j8) (hnx : n < nx) : PC Tryd.prog 35 [val p, .v (.int .i64 (t : Int))] G nx fun r' G' nx' => ∃ y : Nat × Nat × Nat × Nat × Nat × Nat, ((nx ≤ y.1 ∧ nx ≤ y.2.2.2.1) ∧ (y.1 < nx + 11 ∧ y.2.2.2.1 < nx + 11) ∧ y.1 ≠ y.2.2.2.1) ∧ r' = .tup [pi p xt t y, .v (.int .i64 0)] ∧ G' = jv p xt G y ∧ nx' = nx + 11 := by
 refine rz (nx := nx) (G := G) (args := [val p, .v (.int .i64 (t : Int))]) (fun y => .tup [pi p xt t y, .v (.int .i64 0)]) (fun y => jv p xt G y) (fun _ => nx + 11) (fun y => (nx ≤ y.1 ∧ nx ≤ y.2.2.2.1) ∧ (y.1 < nx + 11 ∧ y.2.2.2.1 < nx + 11) ∧ y.1 ≠ y.2.2.2.1) Tryd.func35 rfl (fun y hS => .tup (bk (ube hS.2.1) (bk .v cg))) (fun y hS => zN) (fun hlt y hS => (by (repeat' (refine et ?_ (by (try dsimp only); omega) ?_)); all_goals (first | exact fq zS | (repeat' (first | exact trivial | refine ⟨?_, ?_⟩ | exact .v | exact .any | refine .elem ?_ | exact ar _ _ | exact c6 _ _ | exact cw _ _ | exact cy _ (by (try dsimp only); omega) | exact .box (by (try dsimp only); omega) | exact c5 | exact cg | exact zf hS.2.1 | refine c4 ?_ ?_ | exact .arr (by (try dsimp only); omega) | exact .own (by (try dsimp only); omega) | exact .map (by (try dsimp only); omega) | exact cc _ | refine bk ?_ ?_ | exact ar _ _))))) ?_
 simp only [Tryd.ntmps35, List.length_cons, List.length_nil, Nat.reduceAdd, Nat.reduceSub]
 refine ct fun hlt => ?_
 dsimp only at hlt
 have htl := (List.getElem?_eq_some_iff.1 hxt).1
 have hnp := (mc hC).1.np
 refine yS fun _ K1 => ?_
 refine yR ?_
 try dsimp only [St.put]
 refine yB rfl rfl rfl ?_
 refine yA rfl rfl ?_
 refine yA rfl rfl ?_
 refine yN ?_
 dsimp only [St.put]
 refine K1 _ ?_
 refine yS fun _ K2 => ?_
 refine yR ?_
 refine yE rfl rfl rfl ?_
 try dsimp only [St.put]
 refine af rfl (qx rfl rfl rfl (ugj n p t xt hC hxt _ _ zG (by dsimp only [St.put]; omega)) (fun ⟨A, va, wa, B, vb, wb⟩ ⟨⟨i1, i2⟩, ⟨j1, j2⟩, k1⟩ => ?_))
 refine yM rfl rfl ?_
 refine yX rfl rfl rfl rfl ?_
 refine yX rfl rfl rfl rfl ?_
 refine yA rfl rfl ?_
 refine yA rfl rfl ?_
 refine yN ?_
 dsimp only [St.put]
 dsimp only at i1 i2 j1 j2 k1
 refine K2 _ ?_
 refine yS fun _ K3 => ?_
 refine yS fun _ K4 => ?_
 refine yR ?_
 refine yM rfl rfl ?_
 refine aa rfl (fu (c := false) (fj rfl rfl rfl) (l3 rfl)) ?_
 refine yN ?_
 dsimp only [St.put]
 refine K4 _ ?_
 refine ak rfl (fun h => by cases h) (fun _ => ?_)
 refine av ?_
 refine K3 _ ?_
 refine yS fun _ K5 => ?_
 refine yS fun _ K6 => ?_
 refine yR ?_
 refine yF rfl rfl rfl rfl ?_
 refine yL rfl rfl rfl ?_
 refine aa rfl (bg rfl rfl (List.length_map _)) ?_
 refine aa rfl (gm rfl rfl rfl (by omega)) ?_
 refine yM rfl rfl ?_
 try dsimp only [St.put]
 refine af rfl (ef rfl rfl rfl (by decide) (by decide) zR (by decide) ?_)
 try dsimp only [St.put]
 refine af rfl (ba rfl rfl rfl (jh _ _ [_]) ?_)
 refine aa rfl (fu (c := false) (dv rfl rfl) (by rw [er, inB_true.2 (by omega)]; rfl)) ?_
 refine yN ?_
 dsimp only [St.put]
 refine K6 _ ?_
 refine ak rfl (fun h => by cases h) (fun _ => ?_)
 refine av ?_
 refine K5 _ ?_
 refine yS fun _ K7 => ?_
 refine yR ?_
 refine yM rfl rfl ?_
 refine yA rfl rfl ?_
 refine yA rfl rfl ?_
 refine yN ?_
 dsimp only [St.put]
 refine K7 _ ?_
 refine ax ?_
 refine ⟨(A, va, wa, B, vb, wb), ⟨⟨by (dsimp only; omega), by (dsimp only; omega)⟩, ⟨by (dsimp only; omega), by (dsimp only; omega)⟩, by (dsimp only; omega)⟩, ?_⟩
 refine iv rfl (fl (by constructor)) (fl (by constructor)) zN zS ?_ ?_
 ·exact zW
 exact zW
theorem uho (n : Nat) (p : am) (t : Nat) (xt : aq) (hC : em p = 0) (hxt : p.pages[t]? = some xt) (G : Nat → Option GObj) (nx : Nat) (hF : G n = some j8) (hnx : n < nx) : PC Tryd.prog 10 [val p, .v (.int .i64 (t : Int))] G nx fun r' G' nx' => ∃ y : Nat × Nat × Nat, (nx ≤ y.1 ∧ y.1 < nx + 11) ∧ r' = .tup [.own y.1 y.2.1 (ca p.text xt).length, .v (.int .i64 0)] ∧ G' = ai G y.1 (.arr y.2.1 y.2.2 54 3 (ca p.text xt).length (ci (ca p.text xt))) ∧ nx' = nx + 11 := by
 refine rz (nx := nx) (G := G) (args := [val p, .v (.int .i64 (t : Int))]) (fun y : Nat × Nat × Nat => .tup [.own y.1 y.2.1 (ca p.text xt).length, .v (.int .i64 0)]) (fun y => ai G y.1 (.arr y.2.1 y.2.2 54 3 (ca p.text xt).length (ci (ca p.text xt)))) (fun _ => nx + 11) (fun y => nx ≤ y.1 ∧ y.1 < nx + 11) Tryd.func10 rfl (fun y hS => .tup (bk (.own hS.2) (bk .v cg))) (fun y hS => zN) (fun hlt y hS => (by (repeat' (refine et ?_ (by (try dsimp only); omega) ?_)); all_goals (first | exact fq zS | (repeat' (first | exact trivial | refine ⟨?_, ?_⟩ | exact .v | exact .any | refine .elem ?_ | exact ar _ _ | exact c6 _ _ | exact cw _ _ | exact cy _ (by (try dsimp only); omega) | exact .box (by (try dsimp only); omega) | exact c5 | exact cg | exact cc _ | refine c4 ?_ ?_ | exact .arr (by (try dsimp only); omega) | exact .own (by (try dsimp only); omega) | exact .map (by (try dsimp only); omega) | exact cc _ | refine bk ?_ ?_ | exact ar _ _))))) ?_
 simp only [Tryd.ntmps10, List.length_cons, List.length_nil, Nat.reduceAdd, Nat.reduceSub]
 refine ct fun hlt => ?_
 dsimp only at hlt
 have htl := (List.getElem?_eq_some_iff.1 hxt).1
 refine yS fun _ K1 => ?_
 refine yR ?_
 try dsimp only [St.put]
 refine yB rfl rfl rfl ?_
 refine yA rfl rfl ?_
 refine yA rfl rfl ?_
 refine yN ?_
 dsimp only [St.put]
 refine K1 _ ?_
 refine yS fun _ K2 => ?_
 refine yR ?_
 refine yE rfl rfl rfl ?_
 refine yM rfl rfl ?_
 try dsimp only [St.put]
 refine af rfl (qx rfl rfl rfl (uaz n p t xt hC hxt _ _ zG (by dsimp only [St.put]; omega)) (fun ⟨A, va, wa, B, vb, wb⟩ ⟨⟨i1, i2⟩, ⟨j1, j2⟩, k1⟩ => ?_))
 refine yM rfl rfl ?_
 refine yX rfl rfl rfl rfl ?_
 refine yX rfl rfl rfl rfl ?_
 refine yA rfl rfl ?_
 refine yA rfl rfl ?_
 refine yN ?_
 dsimp only [St.put]
 dsimp only at i1 i2 j1 j2 k1
 refine K2 _ ?_
 refine yS fun _ K3 => ?_
 refine yS fun _ K4 => ?_
 refine yR ?_
 refine yM rfl rfl ?_
 refine aa rfl (fu (c := false) (fj rfl rfl rfl) (l3 rfl)) ?_
 refine yN ?_
 dsimp only [St.put]
 refine K4 _ ?_
 refine ak rfl (fun h => by cases h) (fun _ => ?_)
 refine av ?_
 refine K3 _ ?_
 refine yS fun _ K5 => ?_
 unfold pi
 have hrw := uac (f := ca p.text) (c := .own A va (ca p.text xt).length) hxt
 dsimp only
 refine yR ?_
 refine yM rfl rfl ?_
 refine aa rfl (ni rfl rfl) ?_
 refine yF rfl rfl rfl rfl ?_
 refine yL rfl rfl rfl ?_
 refine yM rfl rfl ?_
 try dsimp only [St.put]
 refine aa rfl (bl rfl rfl rfl (by omega) hrw rfl) ?_
 refine yL rfl rfl rfl ?_
 refine yA rfl rfl ?_
 refine yA rfl rfl ?_
 refine yN ?_
 dsimp only [St.put]
 refine K5 _ ?_
 refine ax ?_
 refine ⟨(A, va, wa), ⟨by (dsimp only; omega), by (dsimp only; omega)⟩, ?_⟩
 refine iv rfl (fl (by constructor)) (fl (by constructor)) zN (jw (by dsimp only; unfold jv; exact zG) (fun m o h => by have q0 := hlt m o h; dsimp only; unfold jv; exact zG)) ?_ ?_
 ·exact zW
 exact zW
theorem uis (n : Nat) (p : am) (t : Nat) (xt : aq) (hC : em p = 0) (hxt : p.pages[t]? = some xt) (G : Nat → Option GObj) (nx : Nat) (hF : G n = some j8) (hnx : n < nx) : PC Tryd.prog 15 [val p, .v (.int .i64 (t : Int))] G nx fun r' G' nx' => ∃ y : Nat × Nat × Nat, (nx ≤ y.1 ∧ y.1 < nx + 11) ∧ r' = .tup [.own y.1 y.2.1 (bf p.text xt).length, .v (.int .i64 0)] ∧ G' = ai G y.1 (.arr y.2.1 y.2.2 54 3 (bf p.text xt).length (ci (bf p.text xt))) ∧ nx' = nx + 11 := by
 refine rz (nx := nx) (G := G) (args := [val p, .v (.int .i64 (t : Int))]) (fun y : Nat × Nat × Nat => .tup [.own y.1 y.2.1 (bf p.text xt).length, .v (.int .i64 0)]) (fun y => ai G y.1 (.arr y.2.1 y.2.2 54 3 (bf p.text xt).length (ci (bf p.text xt)))) (fun _ => nx + 11) (fun y => nx ≤ y.1 ∧ y.1 < nx + 11) Tryd.func15 rfl (fun y hS => .tup (bk (.own hS.2) (bk .v cg))) (fun y hS => zN) (fun hlt y hS => (by (repeat' (refine et ?_ (by (try dsimp only); omega) ?_)); all_goals (first | exact fq zS | (repeat' (first | exact trivial | refine ⟨?_, ?_⟩ | exact .v | exact .any | refine .elem ?_ | exact ar _ _ | exact c6 _ _ | exact cw _ _ | exact cy _ (by (try dsimp only); omega) | exact .box (by (try dsimp only); omega) | exact c5 | exact cg | exact cc _ | refine c4 ?_ ?_ | exact .arr (by (try dsimp only); omega) | exact .own (by (try dsimp only); omega) | exact .map (by (try dsimp only); omega) | exact cc _ | refine bk ?_ ?_ | exact ar _ _))))) ?_
 simp only [Tryd.ntmps15, List.length_cons, List.length_nil, Nat.reduceAdd, Nat.reduceSub]
 refine ct fun hlt => ?_
 dsimp only at hlt
 have htl := (List.getElem?_eq_some_iff.1 hxt).1
 refine yS fun _ K1 => ?_
 refine yR ?_
 try dsimp only [St.put]
 refine yB rfl rfl rfl ?_
 refine yA rfl rfl ?_
 refine yA rfl rfl ?_
 refine yN ?_
 dsimp only [St.put]
 refine K1 _ ?_
 refine yS fun _ K2 => ?_
 refine yR ?_
 refine yE rfl rfl rfl ?_
 refine yM rfl rfl ?_
 try dsimp only [St.put]
 refine af rfl (qx rfl rfl rfl (uaz n p t xt hC hxt _ _ zG (by dsimp only [St.put]; omega)) (fun ⟨A, va, wa, B, vb, wb⟩ ⟨⟨i1, i2⟩, ⟨j1, j2⟩, k1⟩ => ?_))
 refine yM rfl rfl ?_
 refine yX rfl rfl rfl rfl ?_
 refine yX rfl rfl rfl rfl ?_
 refine yA rfl rfl ?_
 refine yA rfl rfl ?_
 refine yN ?_
 dsimp only [St.put]
 dsimp only at i1 i2 j1 j2 k1
 refine K2 _ ?_
 refine yS fun _ K3 => ?_
 refine yS fun _ K4 => ?_
 refine yR ?_
 refine yM rfl rfl ?_
 refine aa rfl (fu (c := false) (fj rfl rfl rfl) (l3 rfl)) ?_
 refine yN ?_
 dsimp only [St.put]
 refine K4 _ ?_
 refine ak rfl (fun h => by cases h) (fun _ => ?_)
 refine av ?_
 refine K3 _ ?_
 refine yS fun _ K5 => ?_
 unfold pi
 have hrw := uac (f := bf p.text) (c := .own B vb (bf p.text xt).length) hxt
 dsimp only
 refine yR ?_
 refine yM rfl rfl ?_
 refine aa rfl (ni rfl rfl) ?_
 refine yF rfl rfl rfl rfl ?_
 refine yL rfl rfl rfl ?_
 refine yM rfl rfl ?_
 try dsimp only [St.put]
 refine aa rfl (bl rfl rfl rfl (by omega) hrw rfl) ?_
 refine yL rfl rfl rfl ?_
 refine yA rfl rfl ?_
 refine yA rfl rfl ?_
 refine yN ?_
 dsimp only [St.put]
 refine K5 _ ?_
 refine ax ?_
 refine ⟨(B, vb, wb), ⟨by (dsimp only; omega), by (dsimp only; omega)⟩, ?_⟩
 refine iv rfl (fl (by constructor)) (fl (by constructor)) zN (jw (by dsimp only; unfold jv; exact zG) (fun m o h => by have q0 := hlt m o h; dsimp only; unfold jv; exact zG)) ?_ ?_
 ·exact zW
 exact zW
end Go.Proofs.YtgffhbbcpgdjjaaDoor
namespace Go.AB
open Go Go.RowKit
open Go.AB.Enc (cells)
open Go.PB (ay aj PlaceD bh bj bi bx aq am cv co)
end Go.AB
namespace Go.AB
open Go Go.RowKit
open Go.AB.Enc (cells)
open Go.PB (ay aj PlaceD bh bj bi bx aq am cv co dq dp)
end Go.AB
namespace Go.Proofs.YtgffhbbcpgdjjaaDoor
set_option maxRecDepth 10000
open Go.RowKit Go.AB
open Go.AB.Enc (cells)
open Go.PB (ay aj PlaceD bh bj bi bx aq am cv co dq dp)
end Go.Proofs.YtgffhbbcpgdjjaaDoor
namespace Go.AB
open Go Go.RowKit
open Go.AB.Enc (cells)
open Go.PB (ay aj PlaceD bh bj bi bx aq am cv co dq dp)
end Go.AB
namespace Go.Proofs.YtgffhbbcpgdjjaaDoor
set_option maxRecDepth 10000
open Go Go.RowKit Go.AB
open Go.AB.Enc (cells)
open Go.PB (ay aj PlaceD bh bj bi bx aq am cv co dq dp)
end Go.Proofs.YtgffhbbcpgdjjaaDoor
namespace Go.AB
open Go Go.RowKit

/-- An iterator at work: what is owned when so many things have come; how many there are; what they are. -/
structure FC where
 G : Nat → Nat → Option GObj
 nx : Nat
 J : Nat → Env → World → Prop
 N : Nat
 l : Nat
 cl : Nat → List C
section
variable (P : Program) (I : FC)
end
section
variable {P : Program} {I : FC} {Q : Exit → St → Nat → Prop} {st : St} {k : Nat}
variable {ops : Array Oper} {K : St → Nat → Prop} {rest : List Oper} {o : Oper} {c : C}
end
end Go.AB
namespace Go.AB
open Go Go.RowKit
open Go.AB.Enc (cells)
open Go.PB (ay aj PlaceD bh bj bi bx aq am cv co dq dp)
end Go.AB
namespace Go.Proofs.YtgffhbbcpgdjjaaDoor
set_option maxRecDepth 10000
open Go Go.RowKit Go.AB
open Go.AB.Enc (cells)
open Go.PB (ay aj PlaceD bh bj bi bx aq am cv co dq dp)
end Go.Proofs.YtgffhbbcpgdjjaaDoor
namespace Go.AB
open Go Go.RowKit
open Go.AB.Enc (cells)
open Go.PB (ay aj PlaceD bh bj bi bx aq am cv co dq dp)
end Go.AB
namespace Go.Proofs.YtgffhbbcpgdjjaaDoor
set_option maxRecDepth 10000
open Go Go.RowKit Go.AB
open Go.AB.Enc (cells)
open Go.PB (ay aj PlaceD bh bj bi bx aq am cv co dq dp)
end Go.Proofs.YtgffhbbcpgdjjaaDoor
namespace Go.AB
open Go Go.RowKit
open Go.AB.Enc (cells)
open Go.PB (ay aj PlaceD bh bj bi bx aq am cv co dq dp)
end Go.AB
namespace Go.Proofs.YtgffhbbcpgdjjaaDoor
set_option maxRecDepth 10000
open Go.RowKit Go.AB
open Go.AB.Enc (cells)
open Go.PB (ay aj PlaceD bh bj bi bx aq am cv co dq dp)
end Go.Proofs.YtgffhbbcpgdjjaaDoor
namespace Go.AB
open Go Go.RowKit
open Go.AB.Enc (cells)
open Go.PB (ay aj PlaceD bh bj bi bx aq am cv co dq dp)
end Go.AB
namespace Go.Proofs.YtgffhbbcpgdjjaaDoor
set_option maxRecDepth 10000
open Go Go.RowKit Go.AB
open Go.AB.Enc (cells)
open Go.PB (ay aj PlaceD bh bj bi bx aq am cv co dq dp)
end Go.Proofs.YtgffhbbcpgdjjaaDoor
namespace Go.Proofs.YtgffhbbcpgdjjaaDoor
set_option maxRecDepth 10000
open Go Go.RowKit Go.AB
open Go.AB.Enc (cells)
open Go.PB (ay aj PlaceD bh bj bi bx aq am cv co dq dp)
end Go.Proofs.YtgffhbbcpgdjjaaDoor
namespace Go.AB
open Go Go.RowKit
open Go.AB.Enc (cells)
open Go.PB (ay aj PlaceD bh bj bi bx aq am cv co dq dp)
end Go.AB
namespace Go.Proofs.YtgffhbbcpgdjjaaDoor
set_option maxRecDepth 10000
open Go.RowKit Go.AB
open Go.AB.Enc (cells)
open Go.PB (ay aj PlaceD bh bj bi bx aq am cv co dq dp)
end Go.Proofs.YtgffhbbcpgdjjaaDoor
namespace Go.AB
open Go Go.RowKit
open Go.AB.Enc (cells)
open Go.PB (ay aj PlaceD bh bj bi bx aq am cv co dq dp)
end Go.AB
namespace Go.Proofs.YtgffhbbcpgdjjaaDoor
set_option maxRecDepth 10000
open Go.RowKit Go.AB
open Go.AB.Enc (cells)
open Go.PB (ay aj PlaceD bh bj bi bx aq am cv co dq dp)
end Go.Proofs.YtgffhbbcpgdjjaaDoor
namespace Go.AB
open Go Go.RowKit
open Go.AB.Enc (cells)
open Go.PB (ay aj PlaceD bh bj bi bx aq am cv co dq dp)
end Go.AB
namespace Go.Proofs.YtgffhbbcpgdjjaaDoor
set_option maxRecDepth 10000
open Go Go.RowKit Go.AB
open Go.AB.Enc (cells)
open Go.PB (ay aj PlaceD bh bj bi bx aq am cv co dq dp)
end Go.Proofs.YtgffhbbcpgdjjaaDoor
namespace Go.AB
open Go Go.RowKit
open Go.AB.Enc (cells)
open Go.PB (ay aj PlaceD bh bj bi bx aq am cv co dq dp)
section
variable {P : Program} {o : Oper} {st : St} {K : St → Prop}
end
end Go.AB
namespace Go.Proofs.YtgffhbbcpgdjjaaDoor
set_option maxRecDepth 10000
open Go Go.RowKit Go.AB
open Go.AB.Enc (cells)
open Go.PB (ay aj PlaceD bh bj bi bx aq am cv co dq dp)
end Go.Proofs.YtgffhbbcpgdjjaaDoor
namespace Go.AB
open Go Go.RowKit
open Go.AB.Enc (cells)
open Go.PB (ay aj PlaceD bh bj bi bx aq am cv co)
def twD (i : Nat) : Bool := [3, 5, 6, 7, 8, 9, 10, 11, 12, 13, 14, 15, 16, 17, 18, 19, 20].contains i
structure TwS (p : am) (eR eP : TypeId) (G0 : Nat → Option GObj) (n0 nn df : Nat) (l0 : List C) (A0 : Nat → C) (b2 b3 b6 b7 b10 b11 b14 b15 b16 b17 : Bool) (st : St) (a b c d va vb vc : Nat) : Prop where
 n : st.n = nn
 df : st.df = df
 l : st.l = l0
 nx : st.nx = n0 + b3.toNat + b7.toNat + b11.toNat + b16.toNat
 s : ∀ i, twD i = false → bw st.l st.r i = A0 i
 x10 : bw st.l st.r 10 = lst p.firsts
 x14 : bw st.l st.r 14 = lst p.seconds
 x18 : bw st.l st.r 18 = lst p.pages
 x6 : bw st.l st.r 6 = eu p.text
 f2 : b2 = true → bw st.l st.r 7 = eu p.text
 f3 : b3 = true → bw st.l st.r 8 = .own a 0 0
 r3 : b3 = true → n0 ≤ a ∧ a < st.nx
 g3 : b3 = true → b6 = false → st.G a = some (.arr 0 0 eR 2 0 [])
 f6 : b6 = true → bw st.l st.r 11 = .own a va p.firsts.length
 g6 : b6 = true → st.G a = some (.arr va 0 eR 2 p.firsts.length (ci p.firsts))
 f7 : b7 = true → bw st.l st.r 12 = .own b 0 0
 r7 : b7 = true → n0 ≤ b ∧ b < st.nx
 g7 : b7 = true → b10 = false → st.G b = some (.arr 0 0 eR 2 0 [])
 f10 : b10 = true → bw st.l st.r 15 = .own b vb p.seconds.length
 g10 : b10 = true → st.G b = some (.arr vb 0 eR 2 p.seconds.length (ci p.seconds))
 f11 : b11 = true → bw st.l st.r 16 = .own c 0 0
 r11 : b11 = true → n0 ≤ c ∧ c < st.nx
 g11 : b11 = true → b14 = false → st.G c = some (.arr 0 0 eP 6 0 [])
 f14 : b14 = true → bw st.l st.r 19 = .own c vc p.pages.length
 g14 : b14 = true → st.G c = some (.arr vc 0 eP 6 p.pages.length (ci p.pages))
 f15 : b15 = true → bw st.l st.r 20 = .agg [lst p.text, .own a va p.firsts.length, .own b vb p.seconds.length, .own c vc p.pages.length]
 f16 : b16 = true → bw st.l st.r 3 = .box d 0 0
 r16 : b16 = true → n0 ≤ d ∧ d < st.nx
 g16 : b16 = true → b17 = false → st.G d = some (.box 0 [.list [] .nil, .list [] .nil, .list [] .nil, .list [] .nil])
 f17 : b17 = true → st.G d = some (.box 1 [lst p.text, .own a va p.firsts.length, .own b vb p.seconds.length, .own c vc p.pages.length])
 ab : b3 = true → b7 = true → a ≠ b
 ac : b3 = true → b11 = true → a ≠ c
 ad : b3 = true → b16 = true → a ≠ d
 bc : b7 = true → b11 = true → b ≠ c
 bd : b7 = true → b16 = true → b ≠ d
 cd : b11 = true → b16 = true → c ≠ d
 G : ∀ m, (b3 = true → m ≠ a) → (b7 = true → m ≠ b) → (b11 = true → m ≠ c) → (b16 = true → m ≠ d) → st.G m = G0 m
 e6 : b6 = true → b3 = true
 e10 : b10 = true → b7 = true
 e14 : b14 = true → b11 = true
 e17 : b17 = true → b16 = true
 e18 : b17 = true → b15 = true
 q2 : b15 = true → b2 = true
 q6 : b15 = true → b6 = true
 q10 : b15 = true → b10 = true
 q14 : b15 = true → b14 = true
section
variable {p : am} {eR eP : TypeId} {G0 : Nat → Option GObj} {n0 nn df : Nat} {l0 : List C} {A0 : Nat → C} {b2 b3 b6 b7 b10 b11 b14 b15 b16 b17 : Bool} {st : St} {a b c d va vb vc : Nat}
theorem m8 {i j : Nat} (h : twD i = false) (k : twD j = true) : Nat.beq j i = false := by
 cases e : Nat.beq j i
 ·rfl
 ·rw [Nat.eq_of_beq_eq_true e, h] at k; cases k
theorem TwS.step2 (h : TwS p eR eP G0 n0 nn df l0 A0 false b3 b6 b7 b10 b11 b14 b15 b16 b17 st a b c d va vb vc) : TwS p eR eP G0 n0 nn df l0 A0 true b3 b6 b7 b10 b11 b14 b15 b16 b17 (st.put (some 7) (eu p.text)) a b c d va vb vc := by
 exact {
  n := h.n
  df := h.df
  l := h.l
  nx := h.nx
  s := fun i hi => by show (bif Nat.beq 7 i then _ else bw st.l st.r i) = _; rw [m8 hi rfl]; exact h.s i hi
  x10 := h.x10
  x14 := h.x14
  x18 := h.x18
  x6 := h.x6
  f2 := fun _ => rfl
  f3 := h.f3
  r3 := h.r3
  g3 := h.g3
  f6 := h.f6
  g6 := h.g6
  f7 := h.f7
  r7 := h.r7
  g7 := h.g7
  f10 := h.f10
  g10 := h.g10
  f11 := h.f11
  r11 := h.r11
  g11 := h.g11
  f14 := h.f14
  g14 := h.g14
  f15 := h.f15
  f16 := h.f16
  r16 := h.r16
  g16 := h.g16
  f17 := h.f17
  ab := h.ab
  ac := h.ac
  ad := h.ad
  bc := h.bc
  bd := h.bd
  cd := h.cd
  G := h.G
  e6 := h.e6
  e10 := h.e10
  e14 := h.e14
  e17 := h.e17
  e18 := h.e18
  q2 := fun _ => rfl
  q6 := h.q6
  q10 := h.q10
  q14 := h.q14 }
theorem TwS.step3 (h : TwS p eR eP G0 n0 nn df l0 A0 b2 false b6 b7 b10 b11 b14 b15 b16 b17 st a b c d va vb vc) (k : b6 = false) (k15 : b15 = false) : TwS p eR eP G0 n0 nn df l0 A0 b2 true b6 b7 b10 b11 b14 b15 b16 b17 (St.put { st with G := ai st.G st.nx (.arr 0 0 eR 2 0 []), nx := st.nx + 1 } (some 8) (.own st.nx 0 0)) st.nx b c d va vb vc := by
 have hnx := h.nx
 subst k
 subst k15
 exact {
  n := h.n
  df := h.df
  l := h.l
  nx := by show st.nx + 1 = _; rw [hnx]; simp only [Bool.toNat_true, Bool.toNat_false] <;> omega
  s := fun i hi => by show (bif Nat.beq 8 i then _ else bw st.l st.r i) = _; rw [m8 hi rfl]; exact h.s i hi
  x10 := h.x10
  x14 := h.x14
  x18 := h.x18
  x6 := h.x6
  f2 := h.f2
  f3 := fun _ => rfl
  r3 := fun _ => ⟨by omega, Nat.lt_succ_self _⟩
  g3 := fun _ _ => i0 _ _ _
  f6 := fun e => nomatch e
  g6 := fun e => nomatch e
  f7 := h.f7
  r7 := fun e => ⟨(h.r7 e).1, Nat.lt_succ_of_lt (h.r7 e).2⟩
  g7 := fun e f => (cm (Nat.ne_of_lt (h.r7 e).2)).trans (h.g7 e f)
  f10 := h.f10
  g10 := fun f => have e := h.e10 f; (cm (Nat.ne_of_lt (h.r7 e).2)).trans (h.g10 f)
  f11 := h.f11
  r11 := fun e => ⟨(h.r11 e).1, Nat.lt_succ_of_lt (h.r11 e).2⟩
  g11 := fun e f => (cm (Nat.ne_of_lt (h.r11 e).2)).trans (h.g11 e f)
  f14 := h.f14
  g14 := fun f => have e := h.e14 f; (cm (Nat.ne_of_lt (h.r11 e).2)).trans (h.g14 f)
  f15 := fun e => nomatch e
  f16 := h.f16
  r16 := fun e => ⟨(h.r16 e).1, Nat.lt_succ_of_lt (h.r16 e).2⟩
  g16 := fun e f => (cm (Nat.ne_of_lt (h.r16 e).2)).trans (h.g16 e f)
  f17 := fun f => nomatch h.e18 f
  ab := fun _ e => (Nat.ne_of_lt (h.r7 e).2).symm
  ac := fun _ e => (Nat.ne_of_lt (h.r11 e).2).symm
  ad := fun _ e => (Nat.ne_of_lt (h.r16 e).2).symm
  bc := h.bc
  bd := h.bd
  cd := h.cd
  G := fun m h1 h2 h3 h4 => (cm (h1 rfl)).trans (h.G m (fun e => nomatch e) h2 h3 h4)
  e6 := fun e => nomatch e
  e10 := h.e10
  e14 := h.e14
  e17 := h.e17
  e18 := h.e18
  q2 := h.q2
  q6 := h.q6
  q10 := h.q10
  q14 := h.q14 }
theorem TwS.step6 (h : TwS p eR eP G0 n0 nn df l0 A0 b2 true false b7 b10 b11 b14 b15 b16 b17 st a b c d va vb vc) (k15 : b15 = false) (w : Nat) : TwS p eR eP G0 n0 nn df l0 A0 b2 true true b7 b10 b11 b14 b15 b16 b17 (St.put { st with G := ai st.G a (.arr w 0 eR 2 p.firsts.length (ci p.firsts)) } (some 11) (.own a w p.firsts.length)) a b c d w vb vc := by
 subst k15
 exact {
  n := h.n
  df := h.df
  l := h.l
  nx := h.nx
  s := fun i hi => by show (bif Nat.beq 11 i then _ else bw st.l st.r i) = _; rw [m8 hi rfl]; exact h.s i hi
  x10 := h.x10
  x14 := h.x14
  x18 := h.x18
  x6 := h.x6
  f2 := h.f2
  f3 := h.f3
  r3 := h.r3
  g3 := fun _ e => nomatch e
  f6 := fun _ => rfl
  g6 := fun _ => i0 _ _ _
  f7 := h.f7
  r7 := h.r7
  g7 := fun e f => (cm (h.ab rfl e).symm).trans (h.g7 e f)
  f10 := h.f10
  g10 := fun f => have e := h.e10 f; (cm (h.ab rfl e).symm).trans (h.g10 f)
  f11 := h.f11
  r11 := h.r11
  g11 := fun e f => (cm (h.ac rfl e).symm).trans (h.g11 e f)
  f14 := h.f14
  g14 := fun f => have e := h.e14 f; (cm (h.ac rfl e).symm).trans (h.g14 f)
  f15 := fun e => nomatch e
  f16 := h.f16
  r16 := h.r16
  g16 := fun e f => (cm (h.ad rfl e).symm).trans (h.g16 e f)
  f17 := fun f => nomatch h.e18 f
  ab := h.ab
  ac := h.ac
  ad := h.ad
  bc := h.bc
  bd := h.bd
  cd := h.cd
  G := fun m h1 h2 h3 h4 => (cm (h1 rfl)).trans (h.G m h1 h2 h3 h4)
  e6 := fun _ => rfl
  e10 := h.e10
  e14 := h.e14
  e17 := h.e17
  e18 := h.e18
  q2 := h.q2
  q6 := fun _ => rfl
  q10 := h.q10
  q14 := h.q14 }
theorem TwS.step7 (h : TwS p eR eP G0 n0 nn df l0 A0 b2 b3 b6 false b10 b11 b14 b15 b16 b17 st a b c d va vb vc) (k : b10 = false) (k15 : b15 = false) : TwS p eR eP G0 n0 nn df l0 A0 b2 b3 b6 true b10 b11 b14 b15 b16 b17 (St.put { st with G := ai st.G st.nx (.arr 0 0 eR 2 0 []), nx := st.nx + 1 } (some 12) (.own st.nx 0 0)) a st.nx c d va vb vc := by
 have hnx := h.nx
 subst k
 subst k15
 exact {
  n := h.n
  df := h.df
  l := h.l
  nx := by show st.nx + 1 = _; rw [hnx]; simp only [Bool.toNat_true, Bool.toNat_false] <;> omega
  s := fun i hi => by show (bif Nat.beq 12 i then _ else bw st.l st.r i) = _; rw [m8 hi rfl]; exact h.s i hi
  x10 := h.x10
  x14 := h.x14
  x18 := h.x18
  x6 := h.x6
  f2 := h.f2
  f3 := h.f3
  r3 := fun e => ⟨(h.r3 e).1, Nat.lt_succ_of_lt (h.r3 e).2⟩
  g3 := fun e f => (cm (Nat.ne_of_lt (h.r3 e).2)).trans (h.g3 e f)
  f6 := h.f6
  g6 := fun f => have e := h.e6 f; (cm (Nat.ne_of_lt (h.r3 e).2)).trans (h.g6 f)
  f7 := fun _ => rfl
  r7 := fun _ => ⟨by omega, Nat.lt_succ_self _⟩
  g7 := fun _ _ => i0 _ _ _
  f10 := fun e => nomatch e
  g10 := fun e => nomatch e
  f11 := h.f11
  r11 := fun e => ⟨(h.r11 e).1, Nat.lt_succ_of_lt (h.r11 e).2⟩
  g11 := fun e f => (cm (Nat.ne_of_lt (h.r11 e).2)).trans (h.g11 e f)
  f14 := h.f14
  g14 := fun f => have e := h.e14 f; (cm (Nat.ne_of_lt (h.r11 e).2)).trans (h.g14 f)
  f15 := fun e => nomatch e
  f16 := h.f16
  r16 := fun e => ⟨(h.r16 e).1, Nat.lt_succ_of_lt (h.r16 e).2⟩
  g16 := fun e f => (cm (Nat.ne_of_lt (h.r16 e).2)).trans (h.g16 e f)
  f17 := fun f => nomatch h.e18 f
  ab := fun e _ => Nat.ne_of_lt (h.r3 e).2
  ac := h.ac
  ad := h.ad
  bc := fun _ e => (Nat.ne_of_lt (h.r11 e).2).symm
  bd := fun _ e => (Nat.ne_of_lt (h.r16 e).2).symm
  cd := h.cd
  G := fun m h1 h2 h3 h4 => (cm (h2 rfl)).trans (h.G m h1 (fun e => nomatch e) h3 h4)
  e6 := h.e6
  e10 := fun e => nomatch e
  e14 := h.e14
  e17 := h.e17
  e18 := h.e18
  q2 := h.q2
  q6 := h.q6
  q10 := h.q10
  q14 := h.q14 }
theorem TwS.step10 (h : TwS p eR eP G0 n0 nn df l0 A0 b2 b3 b6 true false b11 b14 b15 b16 b17 st a b c d va vb vc) (k15 : b15 = false) (w : Nat) : TwS p eR eP G0 n0 nn df l0 A0 b2 b3 b6 true true b11 b14 b15 b16 b17 (St.put { st with G := ai st.G b (.arr w 0 eR 2 p.seconds.length (ci p.seconds)) } (some 15) (.own b w p.seconds.length)) a b c d va w vc := by
 subst k15
 exact {
  n := h.n
  df := h.df
  l := h.l
  nx := h.nx
  s := fun i hi => by show (bif Nat.beq 15 i then _ else bw st.l st.r i) = _; rw [m8 hi rfl]; exact h.s i hi
  x10 := h.x10
  x14 := h.x14
  x18 := h.x18
  x6 := h.x6
  f2 := h.f2
  f3 := h.f3
  r3 := h.r3
  g3 := fun e f => (cm (h.ab e rfl)).trans (h.g3 e f)
  f6 := h.f6
  g6 := fun f => have e := h.e6 f; (cm (h.ab e rfl)).trans (h.g6 f)
  f7 := h.f7
  r7 := h.r7
  g7 := fun _ e => nomatch e
  f10 := fun _ => rfl
  g10 := fun _ => i0 _ _ _
  f11 := h.f11
  r11 := h.r11
  g11 := fun e f => (cm (h.bc rfl e).symm).trans (h.g11 e f)
  f14 := h.f14
  g14 := fun f => have e := h.e14 f; (cm (h.bc rfl e).symm).trans (h.g14 f)
  f15 := fun e => nomatch e
  f16 := h.f16
  r16 := h.r16
  g16 := fun e f => (cm (h.bd rfl e).symm).trans (h.g16 e f)
  f17 := fun f => nomatch h.e18 f
  ab := h.ab
  ac := h.ac
  ad := h.ad
  bc := h.bc
  bd := h.bd
  cd := h.cd
  G := fun m h1 h2 h3 h4 => (cm (h2 rfl)).trans (h.G m h1 h2 h3 h4)
  e6 := h.e6
  e10 := fun _ => rfl
  e14 := h.e14
  e17 := h.e17
  e18 := h.e18
  q2 := h.q2
  q6 := h.q6
  q10 := fun _ => rfl
  q14 := h.q14 }
theorem TwS.step11 (h : TwS p eR eP G0 n0 nn df l0 A0 b2 b3 b6 b7 b10 false b14 b15 b16 b17 st a b c d va vb vc) (k : b14 = false) (k15 : b15 = false) : TwS p eR eP G0 n0 nn df l0 A0 b2 b3 b6 b7 b10 true b14 b15 b16 b17 (St.put { st with G := ai st.G st.nx (.arr 0 0 eP 6 0 []), nx := st.nx + 1 } (some 16) (.own st.nx 0 0)) a b st.nx d va vb vc := by
 have hnx := h.nx
 subst k
 subst k15
 exact {
  n := h.n
  df := h.df
  l := h.l
  nx := by show st.nx + 1 = _; rw [hnx]; simp only [Bool.toNat_true, Bool.toNat_false] <;> omega
  s := fun i hi => by show (bif Nat.beq 16 i then _ else bw st.l st.r i) = _; rw [m8 hi rfl]; exact h.s i hi
  x10 := h.x10
  x14 := h.x14
  x18 := h.x18
  x6 := h.x6
  f2 := h.f2
  f3 := h.f3
  r3 := fun e => ⟨(h.r3 e).1, Nat.lt_succ_of_lt (h.r3 e).2⟩
  g3 := fun e f => (cm (Nat.ne_of_lt (h.r3 e).2)).trans (h.g3 e f)
  f6 := h.f6
  g6 := fun f => have e := h.e6 f; (cm (Nat.ne_of_lt (h.r3 e).2)).trans (h.g6 f)
  f7 := h.f7
  r7 := fun e => ⟨(h.r7 e).1, Nat.lt_succ_of_lt (h.r7 e).2⟩
  g7 := fun e f => (cm (Nat.ne_of_lt (h.r7 e).2)).trans (h.g7 e f)
  f10 := h.f10
  g10 := fun f => have e := h.e10 f; (cm (Nat.ne_of_lt (h.r7 e).2)).trans (h.g10 f)
  f11 := fun _ => rfl
  r11 := fun _ => ⟨by omega, Nat.lt_succ_self _⟩
  g11 := fun _ _ => i0 _ _ _
  f14 := fun e => nomatch e
  g14 := fun e => nomatch e
  f15 := fun e => nomatch e
  f16 := h.f16
  r16 := fun e => ⟨(h.r16 e).1, Nat.lt_succ_of_lt (h.r16 e).2⟩
  g16 := fun e f => (cm (Nat.ne_of_lt (h.r16 e).2)).trans (h.g16 e f)
  f17 := fun f => nomatch h.e18 f
  ab := h.ab
  ac := fun e _ => Nat.ne_of_lt (h.r3 e).2
  ad := h.ad
  bc := fun e _ => Nat.ne_of_lt (h.r7 e).2
  bd := h.bd
  cd := fun _ e => (Nat.ne_of_lt (h.r16 e).2).symm
  G := fun m h1 h2 h3 h4 => (cm (h3 rfl)).trans (h.G m h1 h2 (fun e => nomatch e) h4)
  e6 := h.e6
  e10 := h.e10
  e14 := fun e => nomatch e
  e17 := h.e17
  e18 := h.e18
  q2 := h.q2
  q6 := h.q6
  q10 := h.q10
  q14 := h.q14 }
theorem TwS.step14 (h : TwS p eR eP G0 n0 nn df l0 A0 b2 b3 b6 b7 b10 true false b15 b16 b17 st a b c d va vb vc) (k15 : b15 = false) (w : Nat) : TwS p eR eP G0 n0 nn df l0 A0 b2 b3 b6 b7 b10 true true b15 b16 b17 (St.put { st with G := ai st.G c (.arr w 0 eP 6 p.pages.length (ci p.pages)) } (some 19) (.own c w p.pages.length)) a b c d va vb w := by
 subst k15
 exact {
  n := h.n
  df := h.df
  l := h.l
  nx := h.nx
  s := fun i hi => by show (bif Nat.beq 19 i then _ else bw st.l st.r i) = _; rw [m8 hi rfl]; exact h.s i hi
  x10 := h.x10
  x14 := h.x14
  x18 := h.x18
  x6 := h.x6
  f2 := h.f2
  f3 := h.f3
  r3 := h.r3
  g3 := fun e f => (cm (h.ac e rfl)).trans (h.g3 e f)
  f6 := h.f6
  g6 := fun f => have e := h.e6 f; (cm (h.ac e rfl)).trans (h.g6 f)
  f7 := h.f7
  r7 := h.r7
  g7 := fun e f => (cm (h.bc e rfl)).trans (h.g7 e f)
  f10 := h.f10
  g10 := fun f => have e := h.e10 f; (cm (h.bc e rfl)).trans (h.g10 f)
  f11 := h.f11
  r11 := h.r11
  g11 := fun _ e => nomatch e
  f14 := fun _ => rfl
  g14 := fun _ => i0 _ _ _
  f15 := fun e => nomatch e
  f16 := h.f16
  r16 := h.r16
  g16 := fun e f => (cm (h.cd rfl e).symm).trans (h.g16 e f)
  f17 := fun f => nomatch h.e18 f
  ab := h.ab
  ac := h.ac
  ad := h.ad
  bc := h.bc
  bd := h.bd
  cd := h.cd
  G := fun m h1 h2 h3 h4 => (cm (h3 rfl)).trans (h.G m h1 h2 h3 h4)
  e6 := h.e6
  e10 := h.e10
  e14 := fun _ => rfl
  e17 := h.e17
  e18 := h.e18
  q2 := h.q2
  q6 := h.q6
  q10 := h.q10
  q14 := fun _ => rfl }
theorem TwS.step15 (h : TwS p eR eP G0 n0 nn df l0 A0 true b3 true b7 true b11 true false b16 b17 st a b c d va vb vc) : TwS p eR eP G0 n0 nn df l0 A0 true b3 true b7 true b11 true true b16 b17 (st.put (some 20) (.agg [lst p.text, .own a va p.firsts.length, .own b vb p.seconds.length, .own c vc p.pages.length])) a b c d va vb vc := by
 exact {
  n := h.n
  df := h.df
  l := h.l
  nx := h.nx
  s := fun i hi => by show (bif Nat.beq 20 i then _ else bw st.l st.r i) = _; rw [m8 hi rfl]; exact h.s i hi
  x10 := h.x10
  x14 := h.x14
  x18 := h.x18
  x6 := h.x6
  f2 := h.f2
  f3 := h.f3
  r3 := h.r3
  g3 := h.g3
  f6 := h.f6
  g6 := h.g6
  f7 := h.f7
  r7 := h.r7
  g7 := h.g7
  f10 := h.f10
  g10 := h.g10
  f11 := h.f11
  r11 := h.r11
  g11 := h.g11
  f14 := h.f14
  g14 := h.g14
  f15 := fun _ => rfl
  f16 := h.f16
  r16 := h.r16
  g16 := h.g16
  f17 := h.f17
  ab := h.ab
  ac := h.ac
  ad := h.ad
  bc := h.bc
  bd := h.bd
  cd := h.cd
  G := h.G
  e6 := h.e6
  e10 := h.e10
  e14 := h.e14
  e17 := h.e17
  e18 := fun _ => rfl
  q2 := fun _ => rfl
  q6 := fun _ => rfl
  q10 := fun _ => rfl
  q14 := fun _ => rfl }
theorem TwS.step16 (h : TwS p eR eP G0 n0 nn df l0 A0 b2 b3 b6 b7 b10 b11 b14 b15 false b17 st a b c d va vb vc) (k : b17 = false) : TwS p eR eP G0 n0 nn df l0 A0 b2 b3 b6 b7 b10 b11 b14 b15 true b17 (St.put { st with G := ai st.G st.nx (.box 0 [.list [] .nil, .list [] .nil, .list [] .nil, .list [] .nil]), nx := st.nx + 1 } (some 3) (.box st.nx 0 0)) a b c st.nx va vb vc := by
 have hnx := h.nx
 subst k
 exact {
  n := h.n
  df := h.df
  l := h.l
  nx := by show st.nx + 1 = _; rw [hnx]; simp only [Bool.toNat_true, Bool.toNat_false] <;> omega
  s := fun i hi => by show (bif Nat.beq 3 i then _ else bw st.l st.r i) = _; rw [m8 hi rfl]; exact h.s i hi
  x10 := h.x10
  x14 := h.x14
  x18 := h.x18
  x6 := h.x6
  f2 := h.f2
  f3 := h.f3
  r3 := fun e => ⟨(h.r3 e).1, Nat.lt_succ_of_lt (h.r3 e).2⟩
  g3 := fun e f => (cm (Nat.ne_of_lt (h.r3 e).2)).trans (h.g3 e f)
  f6 := h.f6
  g6 := fun f => have e := h.e6 f; (cm (Nat.ne_of_lt (h.r3 e).2)).trans (h.g6 f)
  f7 := h.f7
  r7 := fun e => ⟨(h.r7 e).1, Nat.lt_succ_of_lt (h.r7 e).2⟩
  g7 := fun e f => (cm (Nat.ne_of_lt (h.r7 e).2)).trans (h.g7 e f)
  f10 := h.f10
  g10 := fun f => have e := h.e10 f; (cm (Nat.ne_of_lt (h.r7 e).2)).trans (h.g10 f)
  f11 := h.f11
  r11 := fun e => ⟨(h.r11 e).1, Nat.lt_succ_of_lt (h.r11 e).2⟩
  g11 := fun e f => (cm (Nat.ne_of_lt (h.r11 e).2)).trans (h.g11 e f)
  f14 := h.f14
  g14 := fun f => have e := h.e14 f; (cm (Nat.ne_of_lt (h.r11 e).2)).trans (h.g14 f)
  f15 := h.f15
  f16 := fun _ => rfl
  r16 := fun _ => ⟨by omega, Nat.lt_succ_self _⟩
  g16 := fun _ _ => i0 _ _ _
  f17 := fun e => nomatch e
  ab := h.ab
  ac := h.ac
  ad := fun e _ => Nat.ne_of_lt (h.r3 e).2
  bc := h.bc
  bd := fun e _ => Nat.ne_of_lt (h.r7 e).2
  cd := fun e _ => Nat.ne_of_lt (h.r11 e).2
  G := fun m h1 h2 h3 h4 => (cm (h4 rfl)).trans (h.G m h1 h2 h3 (fun e => nomatch e))
  e6 := h.e6
  e10 := h.e10
  e14 := h.e14
  e17 := fun e => nomatch e
  e18 := fun e => nomatch e
  q2 := h.q2
  q6 := h.q6
  q10 := h.q10
  q14 := h.q14 }
theorem TwS.step17 (h : TwS p eR eP G0 n0 nn df l0 A0 b2 b3 b6 b7 b10 b11 b14 true true false st a b c d va vb vc) : TwS p eR eP G0 n0 nn df l0 A0 b2 b3 b6 b7 b10 b11 b14 true true true { st with G := ai st.G d (.box 1 [lst p.text, .own a va p.firsts.length, .own b vb p.seconds.length, .own c vc p.pages.length]) } a b c d va vb vc := by
 exact {
  n := h.n
  df := h.df
  l := h.l
  nx := h.nx
  s := h.s
  x10 := h.x10
  x14 := h.x14
  x18 := h.x18
  x6 := h.x6
  f2 := h.f2
  f3 := h.f3
  r3 := h.r3
  g3 := fun e f => (cm (h.ad e rfl)).trans (h.g3 e f)
  f6 := h.f6
  g6 := fun f => have e := h.e6 f; (cm (h.ad e rfl)).trans (h.g6 f)
  f7 := h.f7
  r7 := h.r7
  g7 := fun e f => (cm (h.bd e rfl)).trans (h.g7 e f)
  f10 := h.f10
  g10 := fun f => have e := h.e10 f; (cm (h.bd e rfl)).trans (h.g10 f)
  f11 := h.f11
  r11 := h.r11
  g11 := fun e f => (cm (h.cd e rfl)).trans (h.g11 e f)
  f14 := h.f14
  g14 := fun f => have e := h.e14 f; (cm (h.cd e rfl)).trans (h.g14 f)
  f15 := h.f15
  f16 := h.f16
  r16 := h.r16
  g16 := fun _ e => nomatch e
  f17 := fun _ => i0 _ _ _
  ab := h.ab
  ac := h.ac
  ad := h.ad
  bc := h.bc
  bd := h.bd
  cd := h.cd
  G := fun m h1 h2 h3 h4 => (cm (h4 rfl)).trans (h.G m h1 h2 h3 h4)
  e6 := h.e6
  e10 := h.e10
  e14 := h.e14
  e17 := fun _ => rfl
  e18 := fun _ => rfl
  q2 := h.q2
  q6 := h.q6
  q10 := h.q10
  q14 := h.q14 }
end
end Go.AB
namespace Go.AB
open Go Go.RowKit
theorem mr {ops : Array Oper} {st : St} {o : Oper} (h1 : qn o.op = false) (h2 : o.guard = none) : fk ops st o = some true := by
 unfold fk su
 rw [h1, h2]; rfl
theorem kz {st : St} {i n : Nat} {c : C} (hn : st.n = n) (hi : Nat.blt i n = true) (h : bw st.l st.r i = c) : st.at i = c := by
 unfold St.at
 rw [hn, hi]; exact h
theorem mo {a b : Bool} (h : a = true → b = true) (hb : b = false) : a = false := by
 cases a
 ·rfl
 rw [h rfl] at hb; cases hb
end Go.AB
namespace Go.Proofs.YtgffhbbcpgdjjaaDoor
set_option maxRecDepth 10000
open Go Go.RowKit Go.AB
open Go.AB.Enc (cells)
open Go.PB (ay aj PlaceD bh bj bi bx aq am cv co dq dp)
theorem ub5 {p : am} (h : ms p = false) : kg p.text = false ∧ p.firsts.length ≤ 6 ∧ p.seconds.length ≤ 6 ∧ p.pages.length ≤ 12 ∧ ∀ x ∈ p.pages, x.found.length ≤ 200 ∧ x.well.length ≤ 200 := by
 unfold ms at h
 simp only [Bool.or_eq_false_iff, decide_eq_false_iff_not, List.any_eq_false] at h
 obtain ⟨⟨⟨⟨h1, h2⟩, h3⟩, h4⟩, h5⟩ := h
 refine ⟨h1, by omega, by omega, by omega, fun x hx => ?_⟩
 have := h5 x hx
 simp only [jy, Bool.or_eq_true, decide_eq_true_eq, not_or] at this
 omega
abbrev TwI (p : am) (G0 : Nat → Option GObj) (n0 df : Nat) (l0 : List C) (A0 : Nat → C) (l : List Bool) (st : St) : Prop :=
 ∃ b2 b3 b6 b7 b10 b11 b14 b15 b16 b17 a b c d va vb vc, l = [true, true, b2, b3, true, true, b6, b7, true, true, b10, b11, true, true, b14, b15, b16, b17] ∧ TwS p 71 69 G0 n0 55 df l0 A0 b2 b3 b6 b7 b10 b11 b14 b15 b16 b17 st a b c d va vb vc
set_option maxHeartbeats 1000000 in
theorem ud7 (p : am) (hg : ms p = false) {ol : List Oper} {K : St → Prop} {late : Nat → Bool} (st0 : St) (hlen : ol.length = 18) (hf : qo ol = true) (hgd : ∀ o ∈ ol, o.guard = none)
  (hd : ol.map mb = [[], [0], [1], [], [], [4], [3, 5, 2], [], [], [8], [7, 9, 6], [], [], [12], [11, 13, 10], [2, 6, 10, 14], [], [16, 15, 14, 0, 1, 2, 3, 4, 5, 6, 7, 8, 9, 10, 11, 12, 13, 14, 15, 16]])
  (hq : ol.map (·.dst) = [some 5, some 6, some 7, some 8, some 9, some 10, some 11, some 12, some 13, some 14, some 15, some 16, some 17, some 18, some 19, some 20, some 3, none])
  (ho : (ol.map (·.op)).drop 2 = [.call { callee := .value (.func 34), args := #[.tmp 6], argTypes := #[24] }, .buildSlice 25 0 #[], .fieldAddr 28 (.tmp 1) 1, .load 25 (.tmp 9),
   .call { callee := .builtin .append, args := #[.tmp 8, .tmp 10], argTypes := #[25, 25] }, .buildSlice 25 0 #[], .fieldAddr 28 (.tmp 1) 2, .load 25 (.tmp 13),
   .call { callee := .builtin .append, args := #[.tmp 12, .tmp 14], argTypes := #[25, 25] }, .buildSlice 26 0 #[], .fieldAddr 28 (.tmp 1) 3, .load 26 (.tmp 17),
   .call { callee := .builtin .append, args := #[.tmp 16, .tmp 18], argTypes := #[26, 26] }, .build 28 #[(0, .tmp 7), (1, .tmp 11), (2, .tmp 15), (3, .tmp 19)], .alloc 28, .store 28 (.tmp 3) (.tmp 20)])
  (hn : st0.n = 55) (h6 : bw st0.l st0.r 6 = eu p.text) (h10 : bw st0.l st0.r 10 = lst p.firsts) (h14 : bw st0.l st0.r 14 = lst p.seconds) (h18 : bw st0.l st0.r 18 = lst p.pages)
  (hK : ∀ st a b c d va vb vc, TwS p 71 69 st0.G st0.nx 55 st0.df st0.l (bw st0.l st0.r) true true true true true true true true true true st a b c d va vb vc → K st) :
  mi Tryd.prog ol K late 10 (rl [2, 2, 2, 2, 2, 2, 2, 4]) st0 := by
 obtain ⟨g1, g2, g3, g4, g5⟩ := ub5 hg
 have hop : ∀ {i : Nat} {o : Oper}, ol[i]? = some o → ∀ {q : Op}, (ol.map (·.op))[i]? = some q → o.op = q := fun {i o} h {q} k => by
  rw [List.getElem?_map, h] at k; exact Option.some.inj k
 have hdst : ∀ {i : Nat} {o : Oper}, ol[i]? = some o → ∀ {q : Option Tmp}, (ol.map (·.dst))[i]? = some q → o.dst = q := fun {i o} h {q} k => by
  rw [List.getElem?_map, h] at k; exact Option.some.inj k
 have hdep : ∀ {i : Nat} {o : Oper}, ol[i]? = some o → ∀ {q : List Nat}, (ol.map mb)[i]? = some q → mb o = q := fun {i o} h {q} k => by
  rw [List.getElem?_map, h] at k; exact Option.some.inj k
 have hop2 : ∀ {i : Nat} {o : Oper}, ol[i + 2]? = some o → ∀ {q : Op}, ((ol.map (·.op)).drop 2)[i]? = some q → o.op = q := fun {i o} h {q} k => by
  rw [List.getElem?_drop, Nat.add_comm] at k
  exact hop h k
 refine y1 (TwI p st0.G st0.nx st0.df st0.l (bw st0.l st0.r)) hf ?_ ?_ ?_ 10 _ st0 ?_ rfl
 ·rintro l st ⟨b2, b3, b6, b7, b10, b11, b14, b15, b16, b17, a, b, c, d, va, vb, vc, rfl, h⟩
  rw [hlen]; rfl
 ·rintro l st i o ⟨b2, b3, b6, b7, b10, b11, b14, b15, b16, b17, a, b, c, d, va, vb, vc, rfl, h⟩ hi hoff hdeps
  have hlt := (List.getElem?_eq_some_iff.1 hi).1
  have hgo := hgd o (List.mem_of_getElem? hi)
  rw [hlen] at hlt
  refine ⟨o, hi, .inl ?_⟩
  have hcase : i = 0 ∨ i = 1 ∨ i = 2 ∨ i = 3 ∨ i = 4 ∨ i = 5 ∨ i = 6 ∨ i = 7 ∨ i = 8 ∨ i = 9 ∨ i = 10 ∨ i = 11 ∨ i = 12 ∨ i = 13 ∨ i = 14 ∨ i = 15 ∨ i = 16 ∨ i = 17 := by omega
  rcases hcase with rfl | rfl | rfl | rfl | rfl | rfl | rfl | rfl | rfl | rfl | rfl | rfl | rfl | rfl | rfl | rfl | rfl | rfl
  ·cases hoff
  ·cases hoff
  ·-- the text
   have e1 := hop2 (i := 0) hi (by rw [ho]; rfl)
   have e2 := hdst hi (by rw [hq]; rfl)
   obtain rfl : b2 = false := Option.some.inj hoff
   refine ⟨mr (by rw [e1]; rfl) hgo, ba (caps := []) (args := [.tmp 6]) e1 rfl (congrArg (fun c => [c]) (kz h.n rfl h.x6)) (ujf p.text g1) ?_⟩
   rw [e2]
   exact ⟨true, b3, b6, b7, b10, b11, b14, b15, b16, b17, a, b, c, d, va, vb, vc, rfl, h.step2⟩
  ·have e1 := hop2 (i := 1) hi (by rw [ho]; rfl)
   have e2 := hdst hi (by rw [hq]; rfl)
   obtain rfl : b3 = false := Option.some.inj hoff
   refine ⟨mr (by rw [e1]; rfl) hgo, sw e1 (by decide) ?_⟩
   rw [e2]
   exact ⟨b2, true, b6, b7, b10, b11, b14, b15, b16, b17, st.nx, b, c, d, va, vb, vc, rfl, h.step3 (mo h.e6 rfl) (mo (fun e => h.e6 (h.q6 e)) rfl)⟩
  ·cases hoff
  ·cases hoff
  ·have e1 := hop2 (i := 4) hi (by rw [ho]; rfl)
   have e2 := hdst hi (by rw [hq]; rfl)
   have e3 := hdep hi (by rw [hd]; rfl)
   obtain rfl : b6 = false := Option.some.inj hoff
   obtain rfl : b3 = true := Option.some.inj (hdeps 3 (by rw [e3]; simp))
   refine ⟨mr (by rw [e1]; rfl) hgo, ki (xs := ([] : List bx)) p.firsts e1 (kz h.n rfl (h.f3 rfl)) (h.g3 rfl rfl) rfl rfl (kz h.n rfl h.x10) rfl (by simp only [List.length_nil]; omega) (by simp only [List.length_nil]; omega) (fun v => ?_)⟩
   rw [e2]
   exact ⟨b2, true, true, b7, b10, b11, b14, b15, b16, b17, a, b, c, d, v, vb, vc, rfl, h.step6 (mo h.q6 rfl) v⟩
  ·have e1 := hop2 (i := 5) hi (by rw [ho]; rfl)
   have e2 := hdst hi (by rw [hq]; rfl)
   obtain rfl : b7 = false := Option.some.inj hoff
   refine ⟨mr (by rw [e1]; rfl) hgo, sw e1 (by decide) ?_⟩
   rw [e2]
   exact ⟨b2, b3, b6, true, b10, b11, b14, b15, b16, b17, a, st.nx, c, d, va, vb, vc, rfl, h.step7 (mo h.e10 rfl) (mo (fun e => h.e10 (h.q10 e)) rfl)⟩
  ·cases hoff
  ·cases hoff
  ·have e1 := hop2 (i := 8) hi (by rw [ho]; rfl)
   have e2 := hdst hi (by rw [hq]; rfl)
   have e3 := hdep hi (by rw [hd]; rfl)
   obtain rfl : b10 = false := Option.some.inj hoff
   obtain rfl : b7 = true := Option.some.inj (hdeps 7 (by rw [e3]; simp))
   refine ⟨mr (by rw [e1]; rfl) hgo, ki (xs := ([] : List bx)) p.seconds e1 (kz h.n rfl (h.f7 rfl)) (h.g7 rfl rfl) rfl rfl (kz h.n rfl h.x14) rfl (by simp only [List.length_nil]; omega) (by simp only [List.length_nil]; omega) (fun v => ?_)⟩
   rw [e2]
   exact ⟨b2, b3, b6, true, true, b11, b14, b15, b16, b17, a, b, c, d, va, v, vc, rfl, h.step10 (mo h.q10 rfl) v⟩
  ·have e1 := hop2 (i := 9) hi (by rw [ho]; rfl)
   have e2 := hdst hi (by rw [hq]; rfl)
   obtain rfl : b11 = false := Option.some.inj hoff
   refine ⟨mr (by rw [e1]; rfl) hgo, sw e1 (by decide) ?_⟩
   rw [e2]
   exact ⟨b2, b3, b6, b7, b10, true, b14, b15, b16, b17, a, b, st.nx, d, va, vb, vc, rfl, h.step11 (mo h.e14 rfl) (mo (fun e => h.e14 (h.q14 e)) rfl)⟩
  ·cases hoff
  ·cases hoff
  ·have e1 := hop2 (i := 12) hi (by rw [ho]; rfl)
   have e2 := hdst hi (by rw [hq]; rfl)
   have e3 := hdep hi (by rw [hd]; rfl)
   obtain rfl : b14 = false := Option.some.inj hoff
   obtain rfl : b11 = true := Option.some.inj (hdeps 11 (by rw [e3]; simp))
   refine ⟨mr (by rw [e1]; rfl) hgo, ki (xs := ([] : List aq)) p.pages e1 (kz h.n rfl (h.f11 rfl)) (h.g11 rfl rfl) rfl rfl (kz h.n rfl h.x18) rfl (by simp only [List.length_nil]; omega) (by simp only [List.length_nil]; omega) (fun v => ?_)⟩
   rw [e2]
   exact ⟨b2, b3, b6, b7, b10, true, true, b15, b16, b17, a, b, c, d, va, vb, v, rfl, h.step14 (mo h.q14 rfl) v⟩
  ·-- the whole
   have e1 := hop2 (i := 13) hi (by rw [ho]; rfl)
   have e2 := hdst hi (by rw [hq]; rfl)
   have e3 := hdep hi (by rw [hd]; rfl)
   obtain rfl : b15 = false := Option.some.inj hoff
   obtain rfl : b2 = true := Option.some.inj (hdeps 2 (by rw [e3]; simp))
   obtain rfl : b6 = true := Option.some.inj (hdeps 6 (by rw [e3]; simp))
   obtain rfl : b10 = true := Option.some.inj (hdeps 10 (by rw [e3]; simp))
   obtain rfl : b14 = true := Option.some.inj (hdeps 14 (by rw [e3]; simp))
   refine ⟨mr (by rw [e1]; rfl) hgo, EStep.mono (SStep.e (D := fun _ => True) (NStep.s (l5 (cs := [lst p.text, .own a va p.firsts.length, .own b vb p.seconds.length, .own c vc p.pages.length]) (parts := [(0, .tmp 7), (1, .tmp 11), (2, .tmp 15), (3, .tmp 19)]) e1 ?_))) fun st' hst' => ?_⟩
   ·show qq _ _ [(0, st.at 7), (1, st.at 11), (2, st.at 15), (3, st.at 19)] = _
    rw [kz h.n rfl (h.f2 rfl), kz h.n rfl (h.f6 rfl), kz h.n rfl (h.f10 rfl), kz h.n rfl (h.f14 rfl)]
    rfl
   subst hst'
   rw [e2]
   exact ⟨true, b3, true, b7, true, b11, true, true, b16, b17, a, b, c, d, va, vb, vc, rfl, h.step15⟩
  ·have e1 := hop2 (i := 14) hi (by rw [ho]; rfl)
   have e2 := hdst hi (by rw [hq]; rfl)
   obtain rfl : b16 = false := Option.some.inj hoff
   refine ⟨mr (by rw [e1]; rfl) hgo, eh (cs := [.list [] .nil, .list [] .nil, .list [] .nil, .list [] .nil]) e1 ?_⟩
   rw [e2]
   exact ⟨b2, b3, b6, b7, b10, b11, b14, b15, true, b17, a, b, c, st.nx, va, vb, vc, rfl, h.step16 (mo h.e17 rfl)⟩
  have e1 := hop2 (i := 15) hi (by rw [ho]; rfl)
  have e2 := hdst hi (by rw [hq]; rfl)
  have e3 := hdep hi (by rw [hd]; rfl)
  obtain rfl : b17 = false := Option.some.inj hoff
  obtain rfl : b15 = true := Option.some.inj (hdeps 15 (by rw [e3]; simp))
  obtain rfl : b16 = true := Option.some.inj (hdeps 16 (by rw [e3]; simp))
  refine ⟨mr (by rw [e1]; rfl) hgo, dt (new := [lst p.text, .own a va p.firsts.length, .own b vb p.seconds.length, .own c vc p.pages.length]) e1 e2 (kz h.n rfl (h.f16 rfl)) (h.g16 rfl rfl) (by rw [show evC st (.tmp 20) = _ from kz h.n rfl (h.f15 rfl)]; rfl) rfl rfl ?_⟩
  exact ⟨b2, b3, b6, b7, b10, b11, b14, true, true, true, a, b, c, d, va, vb, vc, rfl, h.step17⟩
 ·rintro l st ⟨b2, b3, b6, b7, b10, b11, b14, b15, b16, b17, a, b, c, d, va, vb, vc, rfl, h⟩ hall
  rw [hlen] at hall
  obtain rfl : b2 = true := Option.some.inj (hall 2 (by omega))
  obtain rfl : b3 = true := Option.some.inj (hall 3 (by omega))
  obtain rfl : b6 = true := Option.some.inj (hall 6 (by omega))
  obtain rfl : b7 = true := Option.some.inj (hall 7 (by omega))
  obtain rfl : b10 = true := Option.some.inj (hall 10 (by omega))
  obtain rfl : b11 = true := Option.some.inj (hall 11 (by omega))
  obtain rfl : b14 = true := Option.some.inj (hall 14 (by omega))
  obtain rfl : b15 = true := Option.some.inj (hall 15 (by omega))
  obtain rfl : b16 = true := Option.some.inj (hall 16 (by omega))
  obtain rfl : b17 = true := Option.some.inj (hall 17 (by omega))
  exact hK st a b c d va vb vc h
 refine ⟨false, false, false, false, false, false, false, false, false, false, 0, 0, 0, 0, 0, 0, 0, rfl, ?_⟩
 exact { n := hn, df := rfl, l := rfl, nx := rfl, s := fun _ _ => rfl, x10 := h10, x14 := h14, x18 := h18, x6 := h6, f2 := (fun e => nomatch e), f3 := (fun e => nomatch e), r3 := (fun e => nomatch e), g3 := (fun e => nomatch e), f6 := (fun e => nomatch e), g6 := (fun e => nomatch e), f7 := (fun e => nomatch e), r7 := (fun e => nomatch e), g7 := (fun e => nomatch e), f10 := (fun e => nomatch e), g10 := (fun e => nomatch e), f11 := (fun e => nomatch e), r11 := (fun e => nomatch e), g11 := (fun e => nomatch e), f14 := (fun e => nomatch e), g14 := (fun e => nomatch e), f15 := (fun e => nomatch e), f16 := (fun e => nomatch e), r16 := (fun e => nomatch e), g16 := (fun e => nomatch e), f17 := (fun e => nomatch e), ab := (fun e => nomatch e), ac := (fun e => nomatch e), ad := (fun e => nomatch e), bc := (fun e => nomatch e), bd := (fun e => nomatch e), cd := (fun e => nomatch e), G := fun _ _ _ _ _ => rfl, e6 := (fun e => nomatch e), e10 := (fun e => nomatch e), e14 := (fun e => nomatch e), e17 := (fun e => nomatch e), e18 := (fun e => nomatch e), q2 := (fun e => nomatch e), q6 := (fun e => nomatch e), q10 := (fun e => nomatch e), q14 := (fun e => nomatch e) }
theorem uau {cs : List C} {i : Nat} {c c0 : C} (h : cs[i]? = some c0) : (putAt cs i [c])[i]? = some c := by
 show (cs.set i c)[i]? = some c
 rw [List.getElem?_set_self (List.getElem?_eq_some_iff.1 h).1]
theorem uf4 {l : List aq} {k : Nat} {x : aq} (h : l[k]? = some x) : (ci l)[k * 6 + 4]? = some (lst x.found) ∧ (ci l)[k * 6 + 5]? = some (lst x.well) := by
 have h1 : (ci l)[k * Enc.n aq + 4]? = some (lst x.found) := vd h rfl
 have h2 : (ci l)[k * Enc.n aq + 5]? = some (lst x.well) := vd h rfl
 exact ⟨h1, h2⟩
set_option maxHeartbeats 2000000 in
theorem ufv (p : am) (hg : ms p = false) : Pure Tryd.prog 7 [val p] (val p) := by
 refine dm Tryd.func7 rfl (fun m => (cw _ _)) fun G nx => ?_
 simp only [Tryd.ntmps7, List.length_cons, List.length_nil, Nat.reduceAdd, Nat.reduceSub]
 refine ct fun hlt => ?_
 dsimp only at hlt
 obtain ⟨g1, g2, g3, g4, g5⟩ := ub5 hg
 refine yS fun _ K1 => ?_
 refine yR ?_
 try dsimp only [St.put]
 refine yB rfl rfl rfl ?_
 try dsimp only [St.put]
 refine af rfl (eh rfl ?_)
 refine yN ?_
 dsimp only [St.put]
 refine K1 _ ?_
 refine cj 4 ?_
 refine zQ ?_
 refine ui0 (X := Nat × Nat × Nat × Nat × Nat × Nat × Nat) (fun y => (nx + 1 ≤ y.1 ∧ nx + 1 ≤ y.2.1 ∧ nx + 1 ≤ y.2.2.1 ∧ nx + 1 ≤ y.2.2.2.1) ∧ (y.1 < nx + 5 ∧ y.2.1 < nx + 5 ∧ y.2.2.1 < nx + 5 ∧ y.2.2.2.1 < nx + 5) ∧ (y.1 ≠ y.2.1 ∧ y.1 ≠ y.2.2.1 ∧ y.1 ≠ y.2.2.2.1 ∧ y.2.1 ≠ y.2.2.1 ∧ y.2.1 ≠ y.2.2.2.1 ∧ y.2.2.1 ≠ y.2.2.2.1)) (fun y => [(3, .box y.2.2.2.1 0 0)]) (fun y G' => (ai (ai (ai (ai (ai G nx (.box 0 [.list [] .nil, .list [] .nil, .list [] .nil, .list [] .nil])) y.1 (.arr y.2.2.2.2.1 0 71 2 p.firsts.length (ci p.firsts))) y.2.1 (.arr y.2.2.2.2.2.1 0 71 2 p.seconds.length (ci p.seconds))) y.2.2.1 (.arr y.2.2.2.2.2.2 (0) 69 6 p.pages.length (ci p.pages))) y.2.2.2.1 (.box 1 [lst p.text, .own y.1 y.2.2.2.2.1 p.firsts.length, .own y.2.1 y.2.2.2.2.2.1 p.seconds.length, .own y.2.2.1 y.2.2.2.2.2.2 p.pages.length]))) (fun _ => nx + 5) rfl ?_ ?_ ?_ ?_ ?_
 ·rintro ⟨a, b, q, d, va, vb, vq⟩ hI
  dsimp only at hI ⊢
  omega
 ·rintro ⟨a, b, q, d, va, vb, vq⟩ hI
  dsimp only at hI ⊢
  obtain ⟨⟨i1, i2, i3, i4⟩, ⟨j1, j2, j3, j4⟩, k1, k2, k3, k4, k5, k6⟩ := hI
  exact zL
 ·rintro ⟨a, b, q, d, va, vb, vq⟩ hI
  dsimp only at hI ⊢
  obtain ⟨⟨i1, i2, i3, i4⟩, ⟨j1, j2, j3, j4⟩, k1, k2, k3, k4, k5, k6⟩ := hI
  exact zH
 ·refine o8 [(0, none), (1, none), (4, none), (5, none), (8, none), (9, none), (12, none), (13, none)] (fun _ => false) (fun i => [0, 4, 8, 12].contains i) 10 (rl [2, 2, 2, 2, 2, 2, 2, 4]) (by kernel_rfl) (by kernel_rfl) ?_
  refine ae rfl rfl rfl rfl (cb rfl rfl rfl) ?_
  try dsimp only [St.put]
  refine aw rfl rfl rfl rfl (c := eu p.text) (im (cs := cells p) rfl rfl (show 1 ≤ 4 by decide)) ?_
  refine ae rfl rfl rfl rfl (cb rfl rfl rfl) ?_
  try dsimp only [St.put]
  refine aw rfl rfl rfl rfl (bv rfl rfl) ?_
  refine ae rfl rfl rfl rfl (cb rfl rfl rfl) ?_
  try dsimp only [St.put]
  refine aw rfl rfl rfl rfl (bv rfl rfl) ?_
  refine ae rfl rfl rfl rfl (cb rfl rfl rfl) ?_
  try dsimp only [St.put]
  refine aw rfl rfl rfl rfl (bv rfl rfl) ?_
  refine bq ?_
  refine ud7 p hg _ rfl (by kernel_rfl) (by simp) rfl rfl rfl rfl rfl rfl rfl rfl fun st a b q d va vb vq h => ?_
  have hnx : st.nx = (nx + 1) + true.toNat + true.toNat + true.toNat + true.toNat := h.nx
  simp only [Bool.toNat_true] at hnx
  have r1 : nx + 1 ≤ a ∧ a < st.nx := h.r3 rfl
  have r2 : nx + 1 ≤ b ∧ b < st.nx := h.r7 rfl
  have r3 : nx + 1 ≤ q ∧ q < st.nx := h.r11 rfl
  have r4 : nx + 1 ≤ d ∧ d < st.nx := h.r16 rfl
  have t1 : a < nx + 5 := by omega
  have t2 : b < nx + 5 := by omega
  have t3 : q < nx + 5 := by omega
  have t4 : d < nx + 5 := by omega
  refine ⟨(a, b, q, d, va, vb, vq), ⟨⟨r1.1, r2.1, r3.1, r4.1⟩, ⟨t1, t2, t3, t4⟩, h.ab rfl rfl, h.ac rfl rfl, h.ad rfl rfl, h.bc rfl rfl, h.bd rfl rfl, h.cd rfl rfl⟩, ⟨h.n, h.df⟩, ⟨.inr (h.s 0 rfl), .inr (h.s 1 rfl), .inr (h.s 2 rfl), .inr (h.f16 rfl), trivial⟩, .inl rfl, by dsimp only; omega, ?_⟩
  refine jw (h.f17 rfl) (jw (h.g14 rfl) (jw (h.g10 rfl) (jw (h.g6 rfl) ?_)))
  intro m o hm
  have hml : m < nx + 1 := by
   by_cases e : m = nx
   ·omega
   rw [cm e] at hm
   have := hlt m o hm
   omega
  exact (h.G m (fun _ => by omega) (fun _ => by omega) (fun _ => by omega) (fun _ => by omega)).trans hm
 rintro ⟨a, b, q, d, va, vb, vq⟩ hI
 dsimp only at hI ⊢
 obtain ⟨⟨i1, i2, i3, i4⟩, ⟨j1, j2, j3, j4⟩, k1, k2, k3, k4, k5, k6⟩ := hI
 refine yS fun _ K3 => ?_
 refine yS fun _ K4 => ?_
 refine yR ?_
 refine yA rfl rfl ?_
 refine yN ?_
 dsimp only [St.put]
 refine K4 _ ?_
 refine az ?_
 refine cj 5 ?_
 refine zQ ?_
 refine db ((ai (ai (ai (ai (ai G nx (.box 0 [.list [] .nil, .list [] .nil, .list [] .nil, .list [] .nil])) a (.arr va 0 71 2 p.firsts.length (ci p.firsts))) b (.arr vb 0 71 2 p.seconds.length (ci p.seconds))) q (.arr vq (0) 69 6 p.pages.length (ci p.pages))) d (.box 1 [lst p.text, .own a va p.firsts.length, .own b vb p.seconds.length, .own q vq p.pages.length]))) zX ?_
 dsimp only
 refine c7 (X := Nat) (fun k => k ≤ p.pages.length) (fun k => p.pages.length - k) (fun k => [(4, .v (.int .i64 (k : Int)))]) (fun k G' => (ai (ai (ai (ai (ai G nx (.box 0 [.list [] .nil, .list [] .nil, .list [] .nil, .list [] .nil])) a (.arr va 0 71 2 p.firsts.length (ci p.firsts))) b (.arr vb 0 71 2 p.seconds.length (ci p.seconds))) q (.arr vq ((2 * k)) 69 6 p.pages.length (ci p.pages))) d (.box 1 [lst p.text, .own a va p.firsts.length, .own b vb p.seconds.length, .own q vq p.pages.length]))) 0 rfl ?_ ?_ ?_ ?_ ?_ ?_
 ·exact Nat.zero_le _
 ·exact zF
 ·exact zX
 ·rintro k hI
  exact zL
 ·rintro k hI
  exact zH
 rintro k hI
 dsimp only at hI ⊢
 refine yS fun _ K5 => ?_
 refine yS fun _ K6 => ?_
 refine yR ?_
 refine yM rfl rfl ?_
 refine aa rfl (dj rfl rfl) ?_
 try dsimp only [St.put]
 refine du rfl (gg rfl rfl zG trivial (by first | rfl | assumption)) ?_
 refine aa rfl (xi rfl rfl) ?_
 refine aa rfl (cn rfl rfl rfl) ?_
 refine yN ?_
 dsimp only [St.put]
 refine K6 _ ?_
 refine ak rfl (fun hc => ?_) (fun hc => ?_)
 ·replace hc := of_decide_eq_true hc
  have hkl : k < p.pages.length := by omega
  obtain ⟨x, hx⟩ : ∃ x, p.pages[k]? = some x := cx hkl
  obtain ⟨hc4, hc5⟩ := uf4 hx
  have hxl := g5 x (ez hx)
  refine av ?_
  refine K5 _ ?_
  refine yS fun _ K7 => ?_
  refine az ?_
  refine yS fun _ K8 => ?_
  refine f4 [(0, none), (1, none), (2, none), (4, none), (5, none), (6, none), (7, none), (8, none), (9, none), (3, none), (10, none), (11, none), (12, none), (13, none)] (fun i => [13].contains i) (fun i => [3, 10, 13].contains i) (fun i => [0, 2, 4, 6, 7, 8, 11, 12].contains i) [d, q] (by kernel_rfl) (by kernel_rfl) ?_
  refine ae rfl rfl rfl rfl (dj rfl rfl) ?_
  try dsimp only [St.put]
  refine aw rfl rfl rfl rfl (gg rfl rfl zG (by simp) (by first | rfl | assumption)) ?_
  refine xM rfl rfl rfl rfl rfl ?_
  refine ae rfl rfl rfl rfl (dj rfl rfl) ?_
  try dsimp only [St.put]
  refine aw rfl rfl rfl rfl (gg rfl rfl zG (by simp) (by first | rfl | assumption)) ?_
  refine xM rfl rfl rfl rfl rfl ?_
  try dsimp only [St.put]
  refine ae rfl rfl rfl rfl (oy rfl rfl zG rfl rfl hkl) ?_
  refine ae rfl rfl rfl rfl (dj rfl rfl) ?_
  try dsimp only [St.put]
  refine aw rfl rfl rfl rfl (tv rfl rfl zG (by simp) hc4) ?_
  refine ij ?_
  try dsimp only [St.put]
  refine g8 rfl rfl rfl (sw rfl (by decide) ⟨zD, ?_⟩)
  try dsimp only [St.put]
  refine g8 rfl rfl rfl (ki (xs := ([] : List PlaceD)) x.found rfl rfl zG rfl rfl rfl rfl zA zA (fun w1 => ⟨zD, ?_⟩))
  try dsimp only [St.put]
  refine di rfl rfl rfl rfl (oy rfl rfl zG rfl rfl hkl) ?_
  refine di rfl rfl rfl rfl (dj rfl rfl) ?_
  try dsimp only [St.put]
  refine gt rfl rfl rfl rfl (ye (sz := 1) rfl rfl rfl zG rfl rfl (by rw [u9]; show k * 6 + 4 + 1 ≤ p.pages.length * 6; omega) (by decide) ?_)
  refine ii ?_
  dsimp only [St.put]
  refine K8 _ ?_
  refine uc4 q (k * 6 + 4) x.found zG (uau hc4) zG (by omega) rfl rfl rfl ?_
  rw [uat hc4]
  refine f4 [(0, none), (1, none), (2, none), (4, none), (5, none), (6, none), (7, none), (8, none), (9, none), (3, none), (10, none), (11, none), (12, none), (13, none)] (fun i => [13].contains i) (fun i => [3, 10, 13].contains i) (fun i => [0, 2, 4, 6, 7, 8, 11, 12].contains i) [d, q] (by kernel_rfl) (by kernel_rfl) ?_
  refine ae rfl rfl rfl rfl (dj rfl rfl) ?_
  try dsimp only [St.put]
  refine aw rfl rfl rfl rfl (gg rfl rfl zG (by simp) (by first | rfl | assumption)) ?_
  refine xM rfl rfl rfl rfl rfl ?_
  refine ae rfl rfl rfl rfl (dj rfl rfl) ?_
  try dsimp only [St.put]
  refine aw rfl rfl rfl rfl (gg rfl rfl zG (by simp) (by first | rfl | assumption)) ?_
  refine xM rfl rfl rfl rfl rfl ?_
  try dsimp only [St.put]
  refine ae rfl rfl rfl rfl (oy rfl rfl zG rfl rfl hkl) ?_
  refine ae rfl rfl rfl rfl (dj rfl rfl) ?_
  try dsimp only [St.put]
  refine aw rfl rfl rfl rfl (tv rfl rfl zG (by simp) hc5) ?_
  refine ij ?_
  try dsimp only [St.put]
  refine g8 rfl rfl rfl (sw rfl (by decide) ⟨zD, ?_⟩)
  try dsimp only [St.put]
  refine g8 rfl rfl rfl (ki (xs := ([] : List PlaceD)) x.well rfl rfl zG rfl rfl rfl rfl zA zA (fun w2 => ⟨zD, ?_⟩))
  try dsimp only [St.put]
  refine di rfl rfl rfl rfl (oy rfl rfl zG rfl rfl hkl) ?_
  refine di rfl rfl rfl rfl (dj rfl rfl) ?_
  try dsimp only [St.put]
  refine gt rfl rfl rfl rfl (ye (sz := 1) rfl rfl rfl zG rfl rfl (by rw [u9]; show k * 6 + 5 + 1 ≤ p.pages.length * 6; omega) (by decide) ?_)
  refine ii ?_
  dsimp only [St.put]
  refine K7 _ ?_
  refine uc4 q (k * 6 + 5) x.well zG (uau hc5) zG (by omega) rfl rfl rfl ?_
  rw [uat hc5]
  refine yR ?_
  refine yM rfl rfl ?_
  refine aa rfl (br rfl rfl rfl (by omega)) ?_
  refine yA rfl rfl ?_
  refine yN ?_
  dsimp only [St.put]
  exact ⟨k + 1, by omega, by omega, ⟨⟨rfl, rfl⟩, zF, zB, zN, zX⟩⟩
 replace hc := of_decide_eq_false hc
 refine yx d 1 p.firsts zG rfl zG (by omega) rfl rfl rfl ?_
 refine yx d 2 p.seconds zG rfl zG (by omega) rfl rfl rfl ?_
 refine yx d 3 p.pages zG rfl zG (by omega) rfl rfl rfl ?_
 dsimp only [List.set_cons_zero, List.set_cons_succ]
 refine cr ?_
 refine K3 _ ?_
 refine yS fun _ K9 => ?_
 refine yR ?_
 try dsimp only [St.put]
 refine du rfl (tx rfl rfl zG trivial (by rfl)) ?_
 try dsimp only [St.put]
 refine af rfl (dt rfl rfl rfl zG rfl rfl (by rfl) ?_)
 refine yN ?_
 dsimp only [St.put]
 refine K9 _ ?_
 refine ax ?_
 refine vg rfl (om rfl zG (by rfl) zC rfl) zN zS ?_
 exact zW
end Go.Proofs.YtgffhbbcpgdjjaaDoor
namespace Go.AB
open Go Go.RowKit Go.ChangeShapes Go.WideShapes
end Go.AB
namespace Go.Proofs.YtgffhbbcpgdjjaaDoor
set_option maxRecDepth 10000
open Go.ChangeShapes Go.WideShapes Go.ChangeAt Go.RowKit Go.AB
open Go.AB.Enc (cells)
open Go.PB (ay aj PlaceD bh bj bi)
instance : OpensE Tryd.prog 3 Int := .int (by kernel_rfl)
instance : OpensE Tryd.prog 9 ByteArray := .str (by kernel_rfl)
instance : OpensE Tryd.prog 118 (List ByteArray) := .slice (e := 9) (by kernel_rfl) (by decide)
instance : OpensE Tryd.prog 119 (List (List ByteArray)) := .slice (e := 118) (by kernel_rfl) (by decide)
instance : OpensE Tryd.prog 121 ay := .chap (tI := 3) (tL := 119) (by kernel_rfl)
instance : OpensE Tryd.prog 22 (List ay) := .slice (e := 121) (by kernel_rfl) (by decide)
theorem ueb : jg Tryd.prog 24 [(0, 22, 1)] 1 = true := by kernel_rfl
instance : OpensE Tryd.prog 24 (List ay) := .one (e := 22) ueb
theorem ufy : jg Tryd.prog 54 [(0, 3, 1), (1, 3, 1), (2, 3, 1)] 3 = true := by kernel_rfl
instance : OpensE Tryd.prog 54 PlaceD := .place (tI := 3) ufy
theorem uit : Tryd.prog.underlying 4 = some .bool := by kernel_rfl
theorem ownZ : ownKnob Tryd.prog.godebug = none := by kernel_rfl
end Go.Proofs.YtgffhbbcpgdjjaaDoor
namespace Go.AB
open Go Go.RowKit Go.ChangeShapes Go.WideShapes
open Go.AB.Enc (cells)
open Go.PB (ay aj PlaceD bh bj bi bx aq am cv co)
theorem OpensE.reader {P : Program} {t tI : TypeId} [oI : OpensE P tI Int] (h : jg P t [(0, tI, 1), (1, tI, 1)] 2 = true) : OpensE P t bx :=
 .struct (α := bx) h fun w cs hl hp => by
  obtain ⟨a, ha⟩ := hp (0, tI, 1) (by simp) Int inferInstance oI
  obtain ⟨b, hb⟩ := hp (1, tI, 1) (by simp) Int inferInstance oI
  match cs, hl with
  | [u, v], _ => exact ⟨⟨a, b⟩, Rs.cons (Rs.single_inv ha) hb⟩
theorem OpensE.page {P : Program} {t tI tL : TypeId} [oI : OpensE P tI Int] [oL : OpensE P tL (List PlaceD)] (h : jg P t [(0, tI, 1), (1, tI, 1), (2, tI, 1), (3, tI, 1), (4, tL, 1), (5, tL, 1)] 6 = true) : OpensE P t aq :=
 .struct (α := aq) h fun w cs hl hp => by
  obtain ⟨a, ha⟩ := hp (0, tI, 1) (by simp) Int inferInstance oI
  obtain ⟨b, hb⟩ := hp (1, tI, 1) (by simp) Int inferInstance oI
  obtain ⟨c, hc⟩ := hp (2, tI, 1) (by simp) Int inferInstance oI
  obtain ⟨d, hd⟩ := hp (3, tI, 1) (by simp) Int inferInstance oI
  obtain ⟨e, he⟩ := hp (4, tL, 1) (by simp) (List PlaceD) inferInstance oL
  obtain ⟨f, hf⟩ := hp (5, tL, 1) (by simp) (List PlaceD) inferInstance oL
  match cs, hl with
  | [u0, u1, u2, u3, u4, u5], _ => exact ⟨⟨a, b, c, d, e, f⟩, Rs.cons (Rs.single_inv ha) (Rs.cons (Rs.single_inv hb) (Rs.cons (Rs.single_inv hc) (Rs.cons (Rs.single_inv hd) (Rs.cons (Rs.single_inv he) hf))))⟩
theorem OpensE.proofs {P : Program} {t tT tR tP : TypeId} [oT : OpensE P tT (List ay)] [oR : OpensE P tR (List bx)] [oP : OpensE P tP (List aq)] (h : jg P t [(0, tT, 1), (1, tR, 1), (2, tR, 1), (3, tP, 1)] 4 = true) : OpensE P t am :=
 .struct (α := am) h fun w cs hl hp => by
  obtain ⟨a, ha⟩ := hp (0, tT, 1) (by simp) (List ay) inferInstance oT
  obtain ⟨b, hb⟩ := hp (1, tR, 1) (by simp) (List bx) inferInstance oR
  obtain ⟨c, hc⟩ := hp (2, tR, 1) (by simp) (List bx) inferInstance oR
  obtain ⟨d, hd⟩ := hp (3, tP, 1) (by simp) (List aq) inferInstance oP
  match cs, hl with
  | [u0, u1, u2, u3], _ => exact ⟨⟨a, b, c, d⟩, Rs.cons (Rs.single_inv ha) (Rs.cons (Rs.single_inv hb) (Rs.cons (Rs.single_inv hc) hd))⟩
end Go.AB
namespace Go.AB
open Go Go.RowKit Go.ChangeShapes Go.WideShapes
open Go.AB.Enc (cells)
open Go.PB (ay aj PlaceD bx aq am cv co)
def uca (P : Program) (t : TypeId) : Bool := match P.underlying t with | some (.func _ _ _) => true | _ => false
theorem yb {P : Program} {t : TypeId} (h : uca P t = true) : ∃ ps rs va, P.underlying t = some (.func ps rs va) := by
 unfold uca at h
 split at h
 ·rename_i ps rs va he; exact ⟨ps, rs, va, he⟩
 ·cases h
/-- Functions that lie in a variable's cells. -/
theorem uh2 {W : World} {b : Nat} {cs : List C} (hne : cs ≠ []) (hone : ∀ c ∈ cs, c.one = true) (us : Nat → Value) (hc : ∀ j, j < cs.length → W.cell? ⟨b, j, none⟩ = some (us j)) (hr : ∀ j c, cs[j]? = some c → R (gy W) W c (us j)) : R (gy W) W (.elem cs) (.pointer (some ⟨b, 0, none⟩)) := by
 have hl : 0 < cs.length := List.length_pos_iff.2 hne
 refine .elem hne hone (.inr ⟨b, 0, rfl, ?_, fun j hj => by rw [Nat.zero_add]; exact hc j hj⟩) hr
 have := yl (hc (cs.length - 1) (by omega))
 show 0 + cs.length ≤ ny W b
 omega
theorem uhf {P : Program} {f : FuncId} {cs : List C} {v gv : Value} {gc : C} (hp : mg 0 (.fact gv gc) P f cs (.v v)) {w : World} {args : List Value} (hK : R (gy w) w gc gv) (hr : Rs (gy w) w cs args) :
  Calls P f args.toArray w fun e w' => e = .returned v ∧ Below w.heap.size w w' :=
 uhg (fun G nx hG => by
  intro E w' as' hrs hsg
  exact hp G nx hG (by obtain ⟨t, _⟩ := hsg.obj 0 _ hG; have := hsg.lt 0 _ t; rw [hsg.nx] at this; exact this) E w' as' hrs hsg) hK hr
/-- a cell of a function's type, as it reads -/
theorem qp {P : Program} {W : World} {t : TypeId} {ps rs : Array TypeId} {va : Bool} {v : Value} {b : UInt8} {r : List UInt8} {f0 : FuncId} (hu : P.underlying t = some (.func ps rs va)) (hv : IsFunc v) (hd : veil (funcToken P) t v = .held (b :: r))
  (hone : ((List.range P.funcs.size).filter fun f => (P.funcs[f]?).any (·.name.toUTF8.data.toList == b :: r)) = [f0]) : v = .func (.func f0) #[] #[] :=
 Go.func_of_trod (w := W) (base := 0) (sp := fun _ => true) (fuel := 1) (q := []) hu hone (by
  have := trod_func (enc := funcToken P) hu (W := W) (base := 0) (sp := fun _ => true) hv 0
  rw [hd] at this
  exact this)
end Go.AB
namespace Go.Proofs.YtgffhbbcpgdjjaaDoor
set_option maxRecDepth 10000
open Go.ChangeShapes Go.WideShapes Go.ChangeAt Go.RowKit Go.AB
open Go.AB.Enc (cells)
open Go.PB (ay aj PlaceD bx aq am cv co)
instance : OpensE Tryd.prog 71 bx := .reader (tI := 3) (by kernel_rfl)
instance : OpensE Tryd.prog 25 (List bx) := .slice (e := 71) (by kernel_rfl) (by decide)
instance : OpensE Tryd.prog 36 (List PlaceD) := .slice (e := 54) (by kernel_rfl) (by decide)
instance : OpensE Tryd.prog 69 aq := .page (tI := 3) (tL := 36) (by kernel_rfl)
instance : OpensE Tryd.prog 26 (List aq) := .slice (e := 69) (by kernel_rfl) (by decide)
theorem uav : jg Tryd.prog 28 [(0, 24, 1), (1, 25, 1), (2, 25, 1), (3, 26, 1)] 4 = true := by kernel_rfl
instance : OpensE Tryd.prog 28 am := .proofs (tT := 24) (tR := 25) (tP := 26) uav
theorem gSides : Tryd.prog.globalNamed "postil/proof.sides" = some 0 := by kernel_rfl
theorem tSides : (Tryd.prog.globals[0]?).map (·.type) = some 92 := by kernel_rfl
theorem ud6 : Tryd.prog.underlying 92 = some (.array 2 91) := by kernel_rfl
theorem uir : Tryd.prog.cellsOf 92 = 6 := by kernel_rfl
theorem uc1 : Tryd.prog.cellsOf 91 = 3 := by kernel_rfl
theorem zu : jg Tryd.prog 91 [(0, 87, 1), (1, 88, 1), (2, 89, 1)] 3 = true := by kernel_rfl
theorem ucl : ∃ ps rs va, Tryd.prog.underlying 87 = some (.func ps rs va) := yb (by kernel_rfl)
theorem ucn : ∃ ps rs va, Tryd.prog.underlying 88 = some (.func ps rs va) := yb (by kernel_rfl)
theorem ucm : ∃ ps rs va, Tryd.prog.underlying 89 = some (.func ps rs va) := yb (by kernel_rfl)
theorem zp {W : World} {m : Nat} {cs : List Value} {y : DataW (List UInt8) × List MemPlace} {d0 d1 d2 : DataW (List UInt8)} (hy : y.1 = .agg [d0, d1, d2])
  (h : DataW.trod (funcToken Tryd.prog) Tryd.prog W 0 (fun _ => true) true m 91 cs = some y) : ∃ v0 v1 v2, cs = [v0, v1, v2] ∧ (IsFunc v0 ∧ veil (funcToken Tryd.prog) 87 v0 = d0) ∧ (IsFunc v1 ∧ veil (funcToken Tryd.prog) 88 v1 = d1) ∧ (IsFunc v2 ∧ veil (funcToken Tryd.prog) 89 v2 = d2) := by
 obtain ⟨_, fs, he⟩ := tm zu
 obtain ⟨xs, m', _, e1, hl, hlen, hf⟩ := DataW.trod_struct he h
 rw [uc1] at hl
 have hfs : fs.toList.map (fun f => (f.offset, f.type, Tryd.prog.cellsOf f.type)) = [(0, 87, 1), (1, 88, 1), (2, 89, 1)] := by
  have := zu
  unfold jg at this
  rw [he] at this
  simp only [Bool.and_eq_true, beq_iff_eq] at this
  exact this.1
 obtain ⟨l⟩ := fs
 match l, hfs with
 | [f0, f1, f2], hfs =>
  simp only [List.map_cons, List.map_nil, List.cons.injEq, Prod.mk.injEq, and_true] at hfs
  obtain ⟨⟨a1, a2, a3⟩, ⟨b1, b2, b3⟩, ⟨c1, c2, c3⟩⟩ := hfs
  have h0 := hf 0 f0 rfl
  have h1 := hf 1 f1 rfl
  have h2 := hf 2 f2 rfl
  match cs, hl with
  | [u0, u1, u2], _ =>
   match xs, hlen with
   | [x0, x1, x2], _ =>
    subst e1
    simp only [List.map_cons, List.map_nil, DataW.agg.injEq, List.cons.injEq, and_true] at hy
    rw [a3, a1, a2] at h0
    rw [b3, b1, b2] at h1
    rw [c3, c1, c2] at h2
    obtain ⟨ps, rs, va, hu⟩ := ucl
    obtain ⟨ps', rs', va', hu'⟩ := ucn
    obtain ⟨ps2, rs2, va2, hu2⟩ := ucm
    obtain ⟨v0, q0, q1, q2⟩ := Go.RowKit.func_of_trod hu h0
    obtain ⟨v1, q3, q4, q5⟩ := Go.RowKit.func_of_trod hu' h1
    obtain ⟨v2, q6, q7, q8⟩ := Go.RowKit.func_of_trod hu2 h2
    have e0 : u0 = v0 := by simpa using q0
    have e1 : u1 = v1 := by simpa using q3
    have e2 : u2 = v2 := by simpa using q6
    subst e0; subst e1; subst e2
    have hx0 : x0 = (veil (funcToken Tryd.prog) 87 u0, []) := by simpa using q2
    have hx1 : x1 = (veil (funcToken Tryd.prog) 88 u1, []) := by simpa using q5
    have hx2 : x2 = (veil (funcToken Tryd.prog) 89 u2, []) := by simpa using q8
    subst hx0; subst hx1; subst hx2
    obtain ⟨k0, k1, k2⟩ := hy
    exact ⟨u0, u1, u2, rfl, ⟨q1, k0⟩, ⟨q4, k1⟩, ⟨q7, k2⟩⟩
 | [], hfs => exact absurd hfs (by simp)
 | [_], hfs => exact absurd hfs (by simp)
 | [_, _], hfs => exact absurd hfs (by simp)
 | _ :: _ :: _ :: _ :: _, hfs => exact absurd hfs (by simp)
theorem uev {W : World} (h : funcsAt Tryd.prog W "postil/proof.sides" (.agg [.agg [.iface "func" (.lit (.string [112, 111, 115, 116, 105, 108, 47, 112, 114, 111, 111, 102, 46, 115, 105, 100, 101, 115, 36, 49])), .iface "func" (.lit (.string [112, 111, 115, 116, 105, 108, 47, 112, 114, 111, 111, 102, 46, 115, 105, 100, 101, 115, 36, 50])), .iface "func" (.lit (.string [112, 111, 115, 116, 105, 108, 47, 112, 114, 111, 111, 102, 46, 115, 105, 100, 101, 115, 36, 51]))], .agg [.iface "func" (.lit (.string [112, 111, 115, 116, 105, 108, 47, 112, 114, 111, 111, 102, 46, 115, 105, 100, 101, 115, 36, 52])), .iface "func" (.lit (.string [112, 111, 115, 116, 105, 108, 47, 112, 114, 111, 111, 102, 46, 115, 105, 100, 101, 115, 36, 53])), .iface "func" (.lit (.string [112, 111, 115, 116, 105, 108, 47, 112, 114, 111, 111, 102, 46, 115, 105, 100, 101, 115, 36, 54]))]])) : R (gy W) W (.elem sidL) (.pointer (some ⟨0, 0, none⟩)) := by
 obtain ⟨g, t, cs, fuel, p, hg, ht, hv, hd⟩ := h
 obtain rfl := Option.some.inj (gSides.symm.trans hg)
 obtain rfl := Option.some.inj (tSides.symm.trans ht)
 obtain ⟨xs, m, _, e1, hl, hn, hel⟩ := DataW.trod_array ud6 hd
 rw [uir] at hl
 rw [uc1] at hel
 have hcell := fun i => World.var?_cell hg hv i
 obtain ⟨l⟩ := cs
 dsimp only at hl hel hcell
 match l, hl with
 | [u0, u1, u2, u3, u4, u5], _ =>
  match xs, hn with
  | [x0, x1], _ =>
   simp only [Prod.mk.injEq] at e1
   have e2 : (.agg [.agg [.held [112, 111, 115, 116, 105, 108, 47, 112, 114, 111, 111, 102, 46, 115, 105, 100, 101, 115, 36, 49], .held [112, 111, 115, 116, 105, 108, 47, 112, 114, 111, 111, 102, 46, 115, 105, 100, 101, 115, 36, 50], .held [112, 111, 115, 116, 105, 108, 47, 112, 114, 111, 111, 102, 46, 115, 105, 100, 101, 115, 36, 51]], .agg [.held [112, 111, 115, 116, 105, 108, 47, 112, 114, 111, 111, 102, 46, 115, 105, 100, 101, 115, 36, 52], .held [112, 111, 115, 116, 105, 108, 47, 112, 114, 111, 111, 102, 46, 115, 105, 100, 101, 115, 36, 53], .held [112, 111, 115, 116, 105, 108, 47, 112, 114, 111, 111, 102, 46, 115, 105, 100, 101, 115, 36, 54]]] : DataW (List UInt8)) = .agg [x0.1, x1.1] := e1.1
   simp only [DataW.agg.injEq, List.cons.injEq, and_true] at e2
   obtain ⟨a0, a1, a2, q0, ⟨a3, a4⟩, ⟨a5, a6⟩, ⟨a7, a8⟩⟩ := zp e2.1.symm (hel 0 (by omega))
   obtain ⟨b0, b1, b2, q1, ⟨b3, b4⟩, ⟨b5, b6⟩, ⟨b7, b8⟩⟩ := zp e2.2.symm (hel 1 (by omega))
   simp only [Nat.zero_mul, Nat.one_mul, List.drop_zero, List.drop_succ_cons, List.take_succ_cons, List.take_zero, List.cons.injEq, and_true] at q0 q1
   obtain ⟨rfl, rfl, rfl⟩ := q0
   obtain ⟨rfl, rfl, rfl⟩ := q1
   obtain ⟨ps, rs, va, hu⟩ := ucl
   obtain ⟨ps', rs', va', hu'⟩ := ucn
   obtain ⟨ps2, rs2, va2, hu2⟩ := ucm
   obtain rfl := qp (W := W) (f0 := 145) hu a3 a4 (by kernel_rfl)
   obtain rfl := qp (W := W) (f0 := 146) hu' a5 a6 (by kernel_rfl)
   obtain rfl := qp (W := W) (f0 := 147) hu2 a7 a8 (by kernel_rfl)
   obtain rfl := qp (W := W) (f0 := 148) hu b3 b4 (by kernel_rfl)
   obtain rfl := qp (W := W) (f0 := 149) hu' b5 b6 (by kernel_rfl)
   obtain rfl := qp (W := W) (f0 := 150) hu2 b7 b8 (by kernel_rfl)
   let L : List Value := [.func (.func 145) #[] #[], .func (.func 146) #[] #[], .func (.func 147) #[] #[], .func (.func 148) #[] #[], .func (.func 149) #[] #[], .func (.func 150) #[] #[]]
   refine uh2 (by simp [sidL, m9]) (by intro c hc; simp only [sidL, m9, List.cons_append, List.nil_append, List.mem_cons, List.not_mem_nil, or_false] at hc; rcases hc with rfl | rfl | rfl | rfl | rfl | rfl <;> rfl) (fun j => L.getD j undef) (fun j hj => ?_) (fun j c hc => ?_)
   ·have := hcell j
    have hj' : j < 6 := hj
    rw [this]
    show (L.toArray)[j]? = _
    rw [List.getElem?_toArray, List.getD_eq_getElem?_getD, List.getElem?_eq_getElem (show j < L.length from hj')]
    rfl
   ·match j, hc with
    | 0, hc => cases hc; exact Rs.fn (vs := []) Rs.nil
    | 1, hc => cases hc; exact Rs.fn (vs := []) Rs.nil
    | 2, hc => cases hc; exact Rs.fn (vs := []) Rs.nil
    | 3, hc => cases hc; exact Rs.fn (vs := []) Rs.nil
    | 4, hc => cases hc; exact Rs.fn (vs := []) Rs.nil
    | 5, hc => cases hc; exact Rs.fn (vs := []) Rs.nil
abbrev sm : List (String × DataW Unit) := [("postil/proof.sides", Rows.laid_postil_proof_sides)]
set_option maxRecDepth 100000 in
/-- The door's own heap meets the condition. -/
theorem uig (os : Os) (args : Array Value) : laidMetH Tryd.prog sm ((World.doorLaid Tryd.prog 600 os).forCall (fun _ _ => 0) ⟨#[], args, []⟩).memory :=
 laidMetH_of_parts3 (fuel := 8) (laidMet_of_run' 8 (by kernel_rfl) (by kernel_rfl)) (by kernel_rfl) (by kernel_rfl)
theorem ueu {W : World} (h : laidMetH Tryd.prog sm W) : R (gy W) W (.elem sidL) (.pointer (some ⟨0, 0, none⟩)) := uev (h.funcs (List.mem_cons_self ..))
end Go.Proofs.YtgffhbbcpgdjjaaDoor
namespace Go.AB
open Go Go.RowKit Go.ChangeShapes Go.WideShapes
open Go.AB.Enc (cells)
def vn (P : Program) (t : TypeId) : Bool := match P.underlying t with | some .bool => true | _ => false
theorem uiu {P : Program} {t : TypeId} (h : vn P t = true) : P.underlying t = some .bool := by
 unfold vn at h
 split at h
 ·rename_i he; exact he
 ·cases h
theorem OpensE.argBool {P : Program} {t : TypeId} (h : vn P t = true) {H : Type} {enc : TypeId × Value → H} {w : World} {base : Nat} {spare : Nat → Bool} {held : Bool} {r : Reach} {b0 : Nat} {v : Value} {d : DataW H} {ps : List MemPlace}
  (hv : Value.okWide P w r b0 t v) (hd : DataW.Trod enc P w base spare held t v d ps) : ∃ a : Bool, R (gy w) w (.v (.bool a)) v := by
 obtain ⟨b, rfl, _⟩ := open_bool (uiu h) hv hd
 exact ⟨b, .v rfl⟩
end Go.AB
namespace Go.Proofs.YtgffhbbcpgdjjaaDoor
set_option maxRecDepth 10000
open Go.ChangeShapes Go.WideShapes Go.ChangeAt Go.RowKit Go.AB
open Go.AB.Enc (cells)
theorem uiv : vn Tryd.prog 4 = true := by kernel_rfl
theorem ub0 : sr Tryd.prog 3 .i64 = true := by kernel_rfl
end Go.Proofs.YtgffhbbcpgdjjaaDoor
namespace Go.Proofs.YtgffhbbcpgdjjaaDoor
set_option maxRecDepth 10000
open Go Go.RowKit Go.AB
open Go.AB.Enc (cells)
open Go.PB (ay aj PlaceD bh bj bi bx aq am cv co dq dp)
theorem tu (a : List PlaceD) : AB.Pure Tryd.prog 14 [lst a, lst a] (.v (.bool true)) := by
 have := udi a a
 rwa [decide_eq_true rfl] at this
set_option maxHeartbeats 4000000 in
theorem ueg (p : am) (a : Int) (b : Bool) (r : Int) : mg 0 j8 Tryd.prog 3 [val p, .v (.int .i64 a), .v (.bool b), .v (.int .i64 r)] (.v (.bool true)) := fun G nx hF hnx => by
 refine kp (G) (nx) Tryd.func3 rfl (.v) zN (fun hlt => zH) ?_
 simp only [Tryd.ntmps3, List.length_cons, List.length_nil, Nat.reduceAdd, Nat.reduceSub]
 refine ct fun hlt => ?_
 dsimp only at hlt
 refine yS fun _ K1 => ?_
 refine yR ?_
 try dsimp only [St.put]
 refine yB rfl rfl rfl ?_
 refine yA rfl rfl ?_
 refine yN ?_
 dsimp only [St.put]
 refine K1 _ ?_
 refine yS fun _ K2 => ?_
 refine yS fun _ K3 => ?_
 refine yR ?_
 refine yE rfl rfl rfl ?_
 try dsimp only [St.put]
 refine af rfl (ba rfl rfl rfl (ufx p) ?_)
 refine yN ?_
 dsimp only [St.put]
 refine K3 _ ?_
 refine ak rfl (fun hc => ?_) (fun hc => ?_)
 ·skip
  refine yS fun _ K4 => ?_
  refine yR ?_
  refine yA rfl rfl ?_
  refine yN ?_
  dsimp only [St.put]
  refine K4 _ ?_
  refine ax ?_
  refine bp rfl (by constructor) zN zS ?_
  rfl
 have hg : ms p = false := hc
 refine av ?_
 refine K2 _ ?_
 refine yS fun _ K5 => ?_
 refine yR ?_
 refine yE rfl rfl rfl ?_
 try dsimp only [St.put]
 refine af rfl (ba rfl rfl rfl (ufv p hg) ?_)
 try dsimp only [St.put]
 refine af rfl (eh rfl ?_)
 try dsimp only [St.put]
 refine af rfl (dt rfl rfl rfl zG rfl rfl (by rfl) ?_)
 refine yN ?_
 dsimp only [St.put]
 refine K5 _ ?_
 refine eo (i := 9) rfl zG zC ?_
 dsimp only
 refine yS fun _ K6 => ?_
 refine yR ?_
 refine yE rfl rfl rfl ?_
 refine yM rfl rfl ?_
 try dsimp only [St.put]
 refine af rfl ((jt rfl rfl rfl ((uf5 0 p a)) zG (by dsimp only [St.put]; omega) ?_))
 refine yM rfl rfl ?_
 refine yX rfl rfl rfl rfl ?_
 refine yX rfl rfl rfl rfl ?_
 refine yA rfl rfl ?_
 refine yA rfl rfl ?_
 refine yN ?_
 dsimp only [St.put]
 refine K6 _ ?_
 refine yS fun _ K7 => ?_
 refine yR ?_
 refine yE rfl rfl rfl ?_
 refine yM rfl rfl ?_
 try dsimp only [St.put]
 refine af rfl (ba rfl rfl rfl (ufu p a) ?_)
 refine yM rfl rfl ?_
 refine yX rfl rfl rfl rfl ?_
 refine yX rfl rfl rfl rfl ?_
 refine yA rfl rfl ?_
 refine yA rfl rfl ?_
 refine yN ?_
 dsimp only [St.put]
 refine K7 _ ?_
 refine yS fun _ K8 => ?_
 by_cases h0 : eg p a = 0
 ·obtain ⟨hc0, t, xt, rfl, hxt, hpo⟩ := m4 h0
  have hV : kh p (t : Int) = ca p.text xt := by unfold kh; rw [h0, hpo]; rfl
  have hW : kk p (t : Int) = bf p.text xt := by unfold kk; rw [h0, hpo]; rfl
  have hfb := pp p.text xt
  have hbb := rb p.text xt
  have hal := km (mc hc0).1.text
  refine yR ?_
  refine yE rfl rfl rfl ?_
  refine yM rfl rfl ?_
  try dsimp only [St.put]
  refine af rfl (qx rfl rfl rfl (uho 0 p t xt hc0 hxt _ _ zG (by dsimp only [St.put]; omega)) (fun ⟨A, va, wa⟩ ⟨i1, j1⟩ => ?_))
  refine yM rfl rfl ?_
  refine yX rfl rfl rfl rfl ?_
  refine yX rfl rfl rfl rfl ?_
  refine yA rfl rfl ?_
  refine yA rfl rfl ?_
  refine yN ?_
  dsimp only [St.put]
  dsimp only at i1 j1
  refine K8 _ ?_
  refine yS fun _ K9 => ?_
  refine yR ?_
  refine yE rfl rfl rfl ?_
  refine yM rfl rfl ?_
  try dsimp only [St.put]
  refine af rfl (ba rfl rfl rfl (uap p _) ?_)
  refine yM rfl rfl ?_
  refine yX rfl rfl rfl rfl ?_
  refine yX rfl rfl rfl rfl ?_
  refine yA rfl rfl ?_
  refine yA rfl rfl ?_
  refine yN ?_
  dsimp only [St.put]
  rw [hV, h0]
  refine K9 _ ?_
  refine yS fun _ K10 => ?_
  refine yS fun _ K11 => ?_
  refine f4 [(0, none), (2, none), (1, none), (3, none), (4, none), (5, none), (6, none), (7, none), (8, none), (9, none), (10, none), (11, none), (12, none), (13, none), (14, none), (15, none), (16, none), (17, none), (18, none), (19, none), (20, none), (21, none), (22, none), (23, none), (24, none), (25, none)] (fun i => [3, 18].contains i) (fun i => [1, 3, 18].contains i) (fun i => [4, 5, 6, 7, 8, 9, 10, 11, 12, 13, 14, 15, 16, 17, 19, 20, 21, 22, 23, 24, 25].contains i) [A] (by kernel_rfl) (by kernel_rfl) ?_
  try dsimp only [St.put]
  refine aw rfl rfl rfl rfl (d9 rfl rfl (Enc.len _)) ?_
  try dsimp only [St.put]
  refine aw rfl rfl rfl rfl (d9 rfl rfl (Enc.len _)) ?_
  refine ij ?_
  try dsimp only [St.put]
  refine g8 rfl rfl rfl ((jt rfl rfl rfl ((ua3 0 p)) zG (by dsimp only [St.put]; omega) ⟨zD, ?_⟩))
  try dsimp only [St.put]
  refine gt rfl rfl rfl rfl (ba rfl rfl rfl (uf p) ?_)
  refine di rfl rfl rfl rfl ((fu (c := false) (fj rfl rfl rfl) (l3 rfl))) ?_
  refine di rfl rfl rfl rfl (gi rfl (by constructor)) ?_
  refine di rfl rfl rfl rfl (gi rfl (by constructor)) ?_
  refine di rfl rfl rfl rfl (gi rfl (by constructor)) ?_
  refine di rfl rfl rfl rfl ((fu (c := false) (fj rfl rfl rfl) (l3 rfl))) ?_
  refine di rfl rfl rfl rfl (bz rfl rfl (by constructor)) ?_
  refine di rfl rfl rfl rfl (gi rfl (by constructor)) ?_
  refine di rfl rfl rfl rfl (gi rfl (by constructor)) ?_
  refine di rfl rfl rfl rfl (gi rfl (by constructor)) ?_
  refine di rfl rfl rfl rfl ((fu (c := false) (fj rfl rfl rfl) (l3 rfl))) ?_
  refine di rfl rfl rfl rfl (bz rfl rfl (by constructor)) ?_
  refine di rfl rfl rfl rfl (gi rfl (by constructor)) ?_
  refine di rfl rfl rfl rfl (gi rfl (by constructor)) ?_
  refine di rfl rfl rfl rfl (gi rfl (by constructor)) ?_
  try dsimp only [St.put]
  refine gt rfl rfl rfl rfl (ucv (as' := [lst (ca p.text xt), lst (ca p.text xt)]) rfl rfl rfl (tu _) ⟨.own _ zG rfl rfl rfl, .low (ar _ _), trivial⟩ (ucd _) ?_)
  refine di rfl rfl rfl rfl (dv rfl rfl) ?_
  refine di rfl rfl rfl rfl (bz rfl rfl (by constructor)) ?_
  refine di rfl rfl rfl rfl (gi rfl (by constructor)) ?_
  refine di rfl rfl rfl rfl (gi rfl (by constructor)) ?_
  refine di rfl rfl rfl rfl (gi rfl (by constructor)) ?_
  refine di rfl rfl rfl rfl ((fu (c := false) (fj rfl rfl rfl) (l3 rfl))) ?_
  refine di rfl rfl rfl rfl (bz rfl rfl (by constructor)) ?_
  refine ii ?_
  dsimp only [St.put]
  refine K11 _ ?_
  refine ak rfl (fun h => by cases h) (fun _ => ?_)
  refine av ?_
  refine K10 _ ?_
  refine yS fun _ K12 => ?_
  refine yR ?_
  refine yE rfl rfl rfl ?_
  refine yM rfl rfl ?_
  try dsimp only [St.put]
  refine af rfl (qx rfl rfl rfl (uis 0 p t xt hc0 hxt _ _ zG (by dsimp only [St.put]; omega)) (fun ⟨B, vb, wb⟩ ⟨i2, j2⟩ => ?_))
  refine yM rfl rfl ?_
  refine yX rfl rfl rfl rfl ?_
  refine yX rfl rfl rfl rfl ?_
  refine yA rfl rfl ?_
  refine yA rfl rfl ?_
  refine yN ?_
  dsimp only [St.put]
  dsimp only at i2 j2
  refine K12 _ ?_
  refine yS fun _ K13 => ?_
  refine yR ?_
  refine yE rfl rfl rfl ?_
  refine yM rfl rfl ?_
  try dsimp only [St.put]
  refine af rfl (ba rfl rfl rfl (uar p _) ?_)
  refine yM rfl rfl ?_
  refine yX rfl rfl rfl rfl ?_
  refine yX rfl rfl rfl rfl ?_
  refine yA rfl rfl ?_
  refine yA rfl rfl ?_
  refine yN ?_
  dsimp only [St.put]
  rw [hW, h0]
  refine K13 _ ?_
  refine yS fun _ K14 => ?_
  refine yR ?_
  refine yE rfl rfl rfl ?_
  refine yM rfl rfl ?_
  refine yM rfl rfl ?_
  try dsimp only [St.put]
  refine af rfl ((jt rfl rfl rfl ((ua4 0 p b r)) zG (by dsimp only [St.put]; omega) ?_))
  refine yM rfl rfl ?_
  refine yX rfl rfl rfl rfl ?_
  refine yX rfl rfl rfl rfl ?_
  refine yA rfl rfl ?_
  refine yA rfl rfl ?_
  refine yN ?_
  dsimp only [St.put]
  refine K14 _ ?_
  refine yS fun _ K15 => ?_
  refine yR ?_
  refine yE rfl rfl rfl ?_
  refine yM rfl rfl ?_
  refine yM rfl rfl ?_
  try dsimp only [St.put]
  refine af rfl (ba rfl rfl rfl (uaq p b r) ?_)
  refine yM rfl rfl ?_
  refine yX rfl rfl rfl rfl ?_
  refine yX rfl rfl rfl rfl ?_
  refine yA rfl rfl ?_
  refine yA rfl rfl ?_
  refine yN ?_
  dsimp only [St.put]
  refine K15 _ ?_
  refine yS fun _ K16 => ?_
  refine yR ?_
  refine yE rfl rfl rfl ?_
  refine yM rfl rfl ?_
  try dsimp only [St.put]
  refine af rfl ((jt rfl rfl rfl ((ua2 0 p _)) zG (by dsimp only [St.put]; omega) ?_))
  refine yM rfl rfl ?_
  refine yX rfl rfl rfl rfl ?_
  refine yX rfl rfl rfl rfl ?_
  try dsimp only [St.put]
  refine af rfl (eh rfl ?_)
  try dsimp only [St.put]
  refine af rfl (dt rfl rfl rfl zG rfl rfl (by rfl) ?_)
  refine yA rfl rfl ?_
  refine yN ?_
  dsimp only [St.put]
  refine K16 _ ?_
  refine eo (i := 22) rfl zG zC ?_
  dsimp only
  refine yS fun _ K17 => ?_
  refine yR ?_
  refine yE rfl rfl rfl ?_
  refine yM rfl rfl ?_
  try dsimp only [St.put]
  refine af rfl (ba rfl rfl rfl (uao p _) ?_)
  refine yM rfl rfl ?_
  refine yX rfl rfl rfl rfl ?_
  refine yX rfl rfl rfl rfl ?_
  try dsimp only [St.put]
  refine af rfl (eh rfl ?_)
  try dsimp only [St.put]
  refine af rfl (dt rfl rfl rfl zG rfl rfl (by rfl) ?_)
  refine yA rfl rfl ?_
  refine yN ?_
  dsimp only [St.put]
  refine K17 _ ?_
  refine eo (i := 24) rfl zG zC ?_
  dsimp only
  refine yS fun _ K18 => ?_
  refine yR ?_
  refine yM rfl rfl ?_
  refine yM rfl rfl ?_
  try dsimp only [St.put]
  refine af rfl (ucv (as' := [lst (bf p.text xt), lst (bf p.text xt)]) rfl rfl rfl (tu _) ⟨.own _ zG rfl rfl rfl, .low (ar _ _), trivial⟩ (ucd _) ?_)
  refine yM rfl rfl ?_
  refine yM rfl rfl ?_
  refine yM rfl rfl ?_
  refine aa rfl ((fu (c := true) (ir rfl rfl rfl) (decide_eq_true rfl))) ?_
  refine aa rfl (ck rfl rfl (by constructor)) ?_
  refine yM rfl rfl ?_
  refine yM rfl rfl ?_
  refine yM rfl rfl ?_
  refine aa rfl ((fu (c := true) (ir rfl rfl rfl) (decide_eq_true rfl))) ?_
  refine aa rfl (ck rfl rfl (by constructor)) ?_
  refine yM rfl rfl ?_
  refine yM rfl rfl ?_
  refine yM rfl rfl ?_
  refine aa rfl ((fu (c := true) (ir rfl rfl rfl) (decide_eq_true rfl))) ?_
  refine aa rfl (ck rfl rfl (by constructor)) ?_
  refine yM rfl rfl ?_
  refine yE rfl rfl rfl ?_
  refine yE rfl rfl rfl ?_
  refine aa rfl ((fu (c := true) (xk (x := i5 p (t : Int)) (y := i5 p (t : Int)) rfl rfl rfl) (by simp))) ?_
  refine aa rfl (ck rfl rfl (by constructor)) ?_
  refine yM rfl rfl ?_
  refine yM rfl rfl ?_
  refine yM rfl rfl ?_
  refine aa rfl ((fu (c := true) (ir rfl rfl rfl) (decide_eq_true rfl))) ?_
  refine aa rfl (ck rfl rfl (by constructor)) ?_
  refine yA rfl rfl ?_
  refine yN ?_
  dsimp only [St.put]
  refine K18 _ ?_
  refine yS fun _ K19 => ?_
  refine yS fun _ K20 => ?_
  refine cj 27 ?_
  refine zQ ?_
  refine yR ?_
  refine yM rfl rfl ?_
  refine yM rfl rfl ?_
  try dsimp only [St.put]
  refine af rfl (ef rfl rfl rfl (by decide) (by decide) zR (by decide) ?_)
  refine aa rfl (bg rfl rfl rfl) ?_
  refine yM rfl rfl ?_
  refine yN ?_
  dsimp only [St.put]
  refine K20 _ ?_
  refine az ?_
  refine vp 3 ?_
  refine pa fun KR21_0 hKR21_0 => ?_
  refine yS fun _ K22 => ?_
  refine yR ?_
  refine aa rfl (fu (c := true) (cn rfl rfl rfl) (by rfl)) ?_
  refine yN ?_
  dsimp only [St.put]
  refine K22 _ ?_
  refine yS fun _ K23 => ?_
  refine ak rfl (fun _ => ?_) (fun h => by cases h)
  refine av ?_
  refine K23 _ ?_
  refine yS fun _ K24 => ?_
  refine az ?_
  refine yS fun _ K25 => ?_
  refine yR ?_
  try dsimp only [St.put]
  refine aa rfl (bl (k := 0) rfl rfl rfl (by first | rfl | omega) rfl rfl) ?_
  refine yL rfl rfl rfl ?_
  refine yA rfl rfl ?_
  refine yN ?_
  dsimp only [St.put]
  refine K25 _ ?_
  refine yS fun _ K26 => ?_
  refine yR ?_
  refine yM rfl rfl ?_
  refine aa rfl (xi rfl rfl) ?_
  refine yM rfl rfl ?_
  refine yN ?_
  dsimp only [St.put]
  refine K26 _ ?_
  refine az ?_
  refine cj 161 ?_
  refine zQ ?_
  refine c7 (X := List PlaceD × Nat × Nat) (fun y => y.1.length = (ca p.text xt).length ∧ y.2.2 ≤ (ca p.text xt).length) (fun y => (ca p.text xt).length - y.2.2) (fun y => [(29, .any), (160, .v (.int .i64 (y.2.2 : Int)))]) (fun y G' => ai (ai G A (.arr va y.2.1 54 3 (ca p.text xt).length (ci y.1))) B (.arr vb wb 54 3 (bf p.text xt).length (ci (bf p.text xt)))) (ca p.text xt, wa, 0) rfl ?_ ?_ ?_ ?_ ?_ ?_
  ·exact ⟨rfl, Nat.zero_le _⟩
  ·exact zF
  ·exact zX
  ·rintro ⟨L0, w0, q⟩ hI
   exact (by (try dsimp only); repeat' (first | exact trivial | refine ⟨?_, ?_⟩ | exact .v | exact .any | refine .elem ?_ | exact ar _ _ | exact c6 _ _ | exact cw _ _ | exact cy _ (by (try dsimp only); omega) | exact .box (by (try dsimp only); omega) | exact c5 | exact cg | exact cc _ | refine c4 ?_ ?_ | exact .arr (by (try dsimp only); omega) | exact .own (by (try dsimp only); omega) | exact .map (by (try dsimp only); omega) | exact cc _ | refine bk ?_ ?_ | exact ar _ _))
  ·rintro ⟨L0, w0, q⟩ hI
   exact (by (repeat' (refine et ?_ (by (try dsimp only); omega) ?_)); all_goals (first | exact fq zS | (repeat' (first | exact trivial | refine ⟨?_, ?_⟩ | exact .v | exact .any | refine .elem ?_ | exact ar _ _ | exact c6 _ _ | exact cw _ _ | exact cy _ (by (try dsimp only); omega) | exact .box (by (try dsimp only); omega) | exact c5 | exact cg | exact cc _ | refine c4 ?_ ?_ | exact .arr (by (try dsimp only); omega) | exact .own (by (try dsimp only); omega) | exact .map (by (try dsimp only); omega) | exact cc _ | refine bk ?_ ?_ | exact ar _ _))))
  rintro ⟨L0, w0, q⟩ hJ
  dsimp only at hJ ⊢
  refine yS fun _ K27 => ?_
  refine yR ?_
  refine aa rfl (cn rfl rfl rfl) ?_
  refine yN ?_
  dsimp only [St.put]
  refine K27 _ ?_
  refine yS fun _ K28 => ?_
  refine ak rfl (fun hc => ?_) (fun hc => ?_)
  ·replace hc := of_decide_eq_true hc
   have hql : q < (ca p.text xt).length := by omega
   obtain ⟨z, hz⟩ : ∃ z, L0[q]? = some z := cx (by omega)
   have hzc : (ci L0)[q * 3 + 2]? = some (.v (.int .i64 z.wd)) := vd hz rfl
   refine av ?_
   refine K28 _ ?_
   refine yS fun _ K29 => ?_
   refine az ?_
   refine yS fun _ K30 => ?_
   refine yR ?_
   refine yM rfl rfl ?_
   refine yA rfl rfl ?_
   refine yN ?_
   dsimp only [St.put]
   refine K30 _ ?_
   refine yR ?_
   refine yM rfl rfl ?_
   refine yM rfl rfl ?_
   try dsimp only [St.put]
   refine aa rfl (oy rfl rfl zG rfl rfl hql) ?_
   refine aa rfl (dj rfl rfl) ?_
   try dsimp only [St.put]
   refine du rfl (tv rfl rfl zG (by simp) hzc) ?_
   refine aa rfl (ubp rfl rfl rfl) ?_
   try dsimp only [St.put]
   refine aa rfl (oy rfl rfl zG rfl rfl hql) ?_
   refine aa rfl (dj rfl rfl) ?_
   try dsimp only [St.put]
   refine af rfl (uct (xs := L0) (k := q) (j := 2) (z := z) (z' := ⟨z.ch, z.ln, IntKind.i64.wrap (z.wd + 5)⟩) rfl rfl rfl zG rfl rfl hz rfl (by decide) rfl ?_)
   refine yN ?_
   dsimp only [St.put]
   refine K29 _ ?_
   refine yR ?_
   refine aa rfl (br rfl rfl rfl (by omega)) ?_
   refine yM rfl rfl ?_
   refine yN ?_
   dsimp only [St.put]
   exact ⟨(L0.set q ⟨z.ch, z.ln, IntKind.i64.wrap (z.wd + 5)⟩, w0 + 1, q + 1), by (dsimp only; omega), ⟨by (dsimp only; rw [List.length_set]; exact hJ.1), by (dsimp only; omega)⟩, ⟨⟨rfl, rfl⟩, zF, zB, zN, zX⟩⟩
  skip
  refine cr ?_
  refine K24 _ ?_
  refine yR ?_
  refine aa rfl (br rfl rfl rfl (by omega)) ?_
  refine yM rfl rfl ?_
  refine yN ?_
  dsimp only [St.put]
  refine hKR21_0 _ ?_
  refine pa fun KR21_1 hKR21_1 => ?_
  refine yS fun _ K31 => ?_
  refine yR ?_
  refine aa rfl (fu (c := true) (cn rfl rfl rfl) (by rfl)) ?_
  refine yN ?_
  dsimp only [St.put]
  refine K31 _ ?_
  refine yS fun _ K32 => ?_
  refine ak rfl (fun _ => ?_) (fun h => by cases h)
  refine av ?_
  refine K32 _ ?_
  refine yS fun _ K33 => ?_
  refine az ?_
  refine yS fun _ K34 => ?_
  refine yR ?_
  try dsimp only [St.put]
  refine aa rfl (bl (k := 1) rfl rfl rfl (by first | rfl | omega) rfl rfl) ?_
  refine yL rfl rfl rfl ?_
  refine yA rfl rfl ?_
  refine yN ?_
  dsimp only [St.put]
  refine K34 _ ?_
  refine yS fun _ K35 => ?_
  refine yR ?_
  refine yM rfl rfl ?_
  refine aa rfl (xi rfl rfl) ?_
  refine yM rfl rfl ?_
  refine yN ?_
  dsimp only [St.put]
  refine K35 _ ?_
  refine az ?_
  refine cj 161 ?_
  refine zQ ?_
  refine c7 (X := List PlaceD × Nat × Nat) (fun y => y.1.length = (bf p.text xt).length ∧ y.2.2 ≤ (bf p.text xt).length) (fun y => (bf p.text xt).length - y.2.2) (fun y => [(29, .any), (160, .v (.int .i64 (y.2.2 : Int)))]) (fun y G' => ai (ai G A (.arr va w0 54 3 (ca p.text xt).length (ci L0))) B (.arr vb y.2.1 54 3 (bf p.text xt).length (ci y.1))) (bf p.text xt, wb, 0) rfl ?_ ?_ ?_ ?_ ?_ ?_
  ·exact ⟨rfl, Nat.zero_le _⟩
  ·exact zF
  ·exact zX
  ·rintro ⟨L1, w1, q⟩ hI
   exact (by (try dsimp only); repeat' (first | exact trivial | refine ⟨?_, ?_⟩ | exact .v | exact .any | refine .elem ?_ | exact ar _ _ | exact c6 _ _ | exact cw _ _ | exact cy _ (by (try dsimp only); omega) | exact .box (by (try dsimp only); omega) | exact c5 | exact cg | exact cc _ | refine c4 ?_ ?_ | exact .arr (by (try dsimp only); omega) | exact .own (by (try dsimp only); omega) | exact .map (by (try dsimp only); omega) | exact cc _ | refine bk ?_ ?_ | exact ar _ _))
  ·rintro ⟨L1, w1, q⟩ hI
   exact (by (repeat' (refine et ?_ (by (try dsimp only); omega) ?_)); all_goals (first | exact fq zS | (repeat' (first | exact trivial | refine ⟨?_, ?_⟩ | exact .v | exact .any | refine .elem ?_ | exact ar _ _ | exact c6 _ _ | exact cw _ _ | exact cy _ (by (try dsimp only); omega) | exact .box (by (try dsimp only); omega) | exact c5 | exact cg | exact cc _ | refine c4 ?_ ?_ | exact .arr (by (try dsimp only); omega) | exact .own (by (try dsimp only); omega) | exact .map (by (try dsimp only); omega) | exact cc _ | refine bk ?_ ?_ | exact ar _ _))))
  rintro ⟨L1, w1, q⟩ hJ
  dsimp only at hJ ⊢
  refine yS fun _ K36 => ?_
  refine yR ?_
  refine aa rfl (cn rfl rfl rfl) ?_
  refine yN ?_
  dsimp only [St.put]
  refine K36 _ ?_
  refine yS fun _ K37 => ?_
  refine ak rfl (fun hc => ?_) (fun hc => ?_)
  ·replace hc := of_decide_eq_true hc
   have hql : q < (bf p.text xt).length := by omega
   obtain ⟨z, hz⟩ : ∃ z, L1[q]? = some z := cx (by omega)
   have hzc : (ci L1)[q * 3 + 2]? = some (.v (.int .i64 z.wd)) := vd hz rfl
   refine av ?_
   refine K37 _ ?_
   refine yS fun _ K38 => ?_
   refine az ?_
   refine yS fun _ K39 => ?_
   refine yR ?_
   refine yM rfl rfl ?_
   refine yA rfl rfl ?_
   refine yN ?_
   dsimp only [St.put]
   refine K39 _ ?_
   refine yR ?_
   refine yM rfl rfl ?_
   refine yM rfl rfl ?_
   try dsimp only [St.put]
   refine aa rfl (oy rfl rfl zG rfl rfl hql) ?_
   refine aa rfl (dj rfl rfl) ?_
   try dsimp only [St.put]
   refine du rfl (tv rfl rfl zG (by simp) hzc) ?_
   refine aa rfl (ubp rfl rfl rfl) ?_
   try dsimp only [St.put]
   refine aa rfl (oy rfl rfl zG rfl rfl hql) ?_
   refine aa rfl (dj rfl rfl) ?_
   try dsimp only [St.put]
   refine af rfl (uct (xs := L1) (k := q) (j := 2) (z := z) (z' := ⟨z.ch, z.ln, IntKind.i64.wrap (z.wd + 5)⟩) rfl rfl rfl zG rfl rfl hz rfl (by decide) rfl ?_)
   refine yN ?_
   dsimp only [St.put]
   refine K38 _ ?_
   refine yR ?_
   refine aa rfl (br rfl rfl rfl (by omega)) ?_
   refine yM rfl rfl ?_
   refine yN ?_
   dsimp only [St.put]
   exact ⟨(L1.set q ⟨z.ch, z.ln, IntKind.i64.wrap (z.wd + 5)⟩, w1 + 1, q + 1), by (dsimp only; omega), ⟨by (dsimp only; rw [List.length_set]; exact hJ.1), by (dsimp only; omega)⟩, ⟨⟨rfl, rfl⟩, zF, zB, zN, zX⟩⟩
  skip
  refine cr ?_
  refine K33 _ ?_
  refine yR ?_
  refine aa rfl (br rfl rfl rfl (by omega)) ?_
  refine yM rfl rfl ?_
  refine yN ?_
  dsimp only [St.put]
  refine hKR21_1 _ ?_
  refine pa fun KR21_2 hKR21_2 => ?_
  refine yS fun _ K40 => ?_
  refine yR ?_
  refine aa rfl (fu (c := false) (cn rfl rfl rfl) (by rfl)) ?_
  refine yN ?_
  dsimp only [St.put]
  refine K40 _ ?_
  refine yS fun _ K41 => ?_
  refine ak rfl (fun h => by cases h) (fun _ => ?_)
  refine cr ?_
  refine K19 _ ?_
  refine yS fun _ K42 => ?_
  refine yR ?_
  refine yM rfl rfl ?_
  refine yM rfl rfl ?_
  refine yE rfl rfl rfl ?_
  refine yE rfl rfl rfl ?_
  try dsimp only [St.put]
  refine af rfl (ba rfl rfl rfl (uan p) ?_)
  refine aa rfl (ck rfl rfl (by constructor)) ?_
  refine yA rfl rfl ?_
  refine yN ?_
  dsimp only [St.put]
  refine K42 _ ?_
  refine ax ?_
  refine bp rfl (by constructor) zN zS ?_
  rfl
 have hV : kh p a = [] := by unfold kh; rw [nz h0]
 have hW : kk p a = [] := by unfold kk; rw [nz h0]
 refine yR ?_
 refine yE rfl rfl rfl ?_
 refine yM rfl rfl ?_
 try dsimp only [St.put]
 refine af rfl ((jt rfl rfl rfl ((uf8 0 p a)) zG (by dsimp only [St.put]; omega) ?_))
 refine yM rfl rfl ?_
 refine yX rfl rfl rfl rfl ?_
 refine yX rfl rfl rfl rfl ?_
 refine yA rfl rfl ?_
 refine yA rfl rfl ?_
 refine yN ?_
 dsimp only [St.put]
 refine K8 _ ?_
 refine yS fun _ K43 => ?_
 refine yR ?_
 refine yE rfl rfl rfl ?_
 refine yM rfl rfl ?_
 try dsimp only [St.put]
 refine af rfl (ba rfl rfl rfl (uap p _) ?_)
 refine yM rfl rfl ?_
 refine yX rfl rfl rfl rfl ?_
 refine yX rfl rfl rfl rfl ?_
 refine yA rfl rfl ?_
 refine yA rfl rfl ?_
 refine yN ?_
 dsimp only [St.put]
 refine K43 _ ?_
 refine yS fun _ K44 => ?_
 refine yS fun _ K45 => ?_
 refine f4 [(0, none), (2, none), (1, none), (3, none), (4, none), (5, none), (6, none), (7, none), (8, none), (9, none), (10, none), (11, none), (12, none), (13, none), (14, none), (15, none), (16, none), (17, none), (18, none), (19, none), (20, none), (21, none), (22, none), (23, none), (24, none), (25, none)] (fun i => [3, 18].contains i) (fun i => [1, 3, 18].contains i) (fun i => [4, 5, 6, 7, 8, 9, 10, 11, 12, 13, 14, 15, 16, 17, 19, 20, 21, 22, 23, 24, 25].contains i) [] (by kernel_rfl) (by kernel_rfl) ?_
 try dsimp only [St.put]
 refine aw rfl rfl rfl rfl (d9 rfl rfl (Enc.len _)) ?_
 try dsimp only [St.put]
 refine aw rfl rfl rfl rfl (d9 rfl rfl (Enc.len _)) ?_
 refine ij ?_
 try dsimp only [St.put]
 refine g8 rfl rfl rfl ((jt rfl rfl rfl ((ua3 0 p)) zG (by dsimp only [St.put]; omega) ⟨zD, ?_⟩))
 try dsimp only [St.put]
 refine gt rfl rfl rfl rfl (ba rfl rfl rfl (uf p) ?_)
 refine di rfl rfl rfl rfl ((fu (c := false) (fj rfl rfl rfl) (l3 rfl))) ?_
 refine di rfl rfl rfl rfl (gi rfl (by constructor)) ?_
 refine di rfl rfl rfl rfl (gi rfl (by constructor)) ?_
 refine di rfl rfl rfl rfl (gi rfl (by constructor)) ?_
 refine di rfl rfl rfl rfl ((fu (c := false) (fj rfl rfl rfl) (l3 rfl))) ?_
 refine di rfl rfl rfl rfl (bz rfl rfl (by constructor)) ?_
 refine di rfl rfl rfl rfl (gi rfl (by constructor)) ?_
 refine di rfl rfl rfl rfl (gi rfl (by constructor)) ?_
 refine di rfl rfl rfl rfl (gi rfl (by constructor)) ?_
 refine di rfl rfl rfl rfl ((fu (c := false) (fj rfl rfl rfl) (l3 rfl))) ?_
 refine di rfl rfl rfl rfl (bz rfl rfl (by constructor)) ?_
 refine di rfl rfl rfl rfl (gi rfl (by constructor)) ?_
 refine di rfl rfl rfl rfl (gi rfl (by constructor)) ?_
 refine di rfl rfl rfl rfl (gi rfl (by constructor)) ?_
 try dsimp only [St.put]
 refine gt rfl rfl rfl rfl (ba rfl rfl rfl (tu _) ?_)
 refine di rfl rfl rfl rfl (dv rfl rfl) ?_
 refine di rfl rfl rfl rfl (bz rfl rfl (by constructor)) ?_
 refine di rfl rfl rfl rfl (gi rfl (by constructor)) ?_
 refine di rfl rfl rfl rfl (gi rfl (by constructor)) ?_
 refine di rfl rfl rfl rfl (gi rfl (by constructor)) ?_
 refine di rfl rfl rfl rfl ((fu (c := false) (fj rfl rfl rfl) (l3 rfl))) ?_
 refine di rfl rfl rfl rfl (bz rfl rfl (by constructor)) ?_
 refine ii ?_
 dsimp only [St.put]
 refine K45 _ ?_
 refine ak rfl (fun h => by cases h) (fun _ => ?_)
 refine av ?_
 refine K44 _ ?_
 refine yS fun _ K46 => ?_
 refine yR ?_
 refine yE rfl rfl rfl ?_
 refine yM rfl rfl ?_
 try dsimp only [St.put]
 refine af rfl ((jt rfl rfl rfl ((uf9 0 p a)) zG (by dsimp only [St.put]; omega) ?_))
 refine yM rfl rfl ?_
 refine yX rfl rfl rfl rfl ?_
 refine yX rfl rfl rfl rfl ?_
 refine yA rfl rfl ?_
 refine yA rfl rfl ?_
 refine yN ?_
 dsimp only [St.put]
 refine K46 _ ?_
 refine yS fun _ K47 => ?_
 refine yR ?_
 refine yE rfl rfl rfl ?_
 refine yM rfl rfl ?_
 try dsimp only [St.put]
 refine af rfl (ba rfl rfl rfl (uar p _) ?_)
 refine yM rfl rfl ?_
 refine yX rfl rfl rfl rfl ?_
 refine yX rfl rfl rfl rfl ?_
 refine yA rfl rfl ?_
 refine yA rfl rfl ?_
 refine yN ?_
 dsimp only [St.put]
 refine K47 _ ?_
 refine yS fun _ K48 => ?_
 refine yR ?_
 refine yE rfl rfl rfl ?_
 refine yM rfl rfl ?_
 refine yM rfl rfl ?_
 try dsimp only [St.put]
 refine af rfl ((jt rfl rfl rfl ((ua4 0 p b r)) zG (by dsimp only [St.put]; omega) ?_))
 refine yM rfl rfl ?_
 refine yX rfl rfl rfl rfl ?_
 refine yX rfl rfl rfl rfl ?_
 refine yA rfl rfl ?_
 refine yA rfl rfl ?_
 refine yN ?_
 dsimp only [St.put]
 refine K48 _ ?_
 refine yS fun _ K49 => ?_
 refine yR ?_
 refine yE rfl rfl rfl ?_
 refine yM rfl rfl ?_
 refine yM rfl rfl ?_
 try dsimp only [St.put]
 refine af rfl (ba rfl rfl rfl (uaq p b r) ?_)
 refine yM rfl rfl ?_
 refine yX rfl rfl rfl rfl ?_
 refine yX rfl rfl rfl rfl ?_
 refine yA rfl rfl ?_
 refine yA rfl rfl ?_
 refine yN ?_
 dsimp only [St.put]
 refine K49 _ ?_
 refine yS fun _ K50 => ?_
 refine yR ?_
 refine yE rfl rfl rfl ?_
 refine yM rfl rfl ?_
 try dsimp only [St.put]
 refine af rfl ((jt rfl rfl rfl ((ua2 0 p _)) zG (by dsimp only [St.put]; omega) ?_))
 refine yM rfl rfl ?_
 refine yX rfl rfl rfl rfl ?_
 refine yX rfl rfl rfl rfl ?_
 try dsimp only [St.put]
 refine af rfl (eh rfl ?_)
 try dsimp only [St.put]
 refine af rfl (dt rfl rfl rfl zG rfl rfl (by rfl) ?_)
 refine yA rfl rfl ?_
 refine yN ?_
 dsimp only [St.put]
 refine K50 _ ?_
 refine eo (i := 22) rfl zG zC ?_
 dsimp only
 refine yS fun _ K51 => ?_
 refine yR ?_
 refine yE rfl rfl rfl ?_
 refine yM rfl rfl ?_
 try dsimp only [St.put]
 refine af rfl (ba rfl rfl rfl (uao p _) ?_)
 refine yM rfl rfl ?_
 refine yX rfl rfl rfl rfl ?_
 refine yX rfl rfl rfl rfl ?_
 try dsimp only [St.put]
 refine af rfl (eh rfl ?_)
 try dsimp only [St.put]
 refine af rfl (dt rfl rfl rfl zG rfl rfl (by rfl) ?_)
 refine yA rfl rfl ?_
 refine yN ?_
 dsimp only [St.put]
 refine K51 _ ?_
 refine eo (i := 24) rfl zG zC ?_
 dsimp only
 refine yS fun _ K52 => ?_
 refine yR ?_
 refine yM rfl rfl ?_
 refine yM rfl rfl ?_
 try dsimp only [St.put]
 refine af rfl (ba rfl rfl rfl (tu _) ?_)
 refine yM rfl rfl ?_
 refine yM rfl rfl ?_
 refine yM rfl rfl ?_
 refine aa rfl ((fu (c := true) (ir rfl rfl rfl) (decide_eq_true rfl))) ?_
 refine aa rfl (ck rfl rfl (by constructor)) ?_
 refine yM rfl rfl ?_
 refine yM rfl rfl ?_
 refine yM rfl rfl ?_
 refine aa rfl ((fu (c := true) (ir rfl rfl rfl) (decide_eq_true rfl))) ?_
 refine aa rfl (ck rfl rfl (by constructor)) ?_
 refine yM rfl rfl ?_
 refine yM rfl rfl ?_
 refine yM rfl rfl ?_
 refine aa rfl ((fu (c := true) (ir rfl rfl rfl) (decide_eq_true rfl))) ?_
 refine aa rfl (ck rfl rfl (by constructor)) ?_
 refine yM rfl rfl ?_
 refine yE rfl rfl rfl ?_
 refine yE rfl rfl rfl ?_
 refine aa rfl ((fu (c := true) (xk (x := i5 p a) (y := i5 p a) rfl rfl rfl) (by simp))) ?_
 refine aa rfl (ck rfl rfl (by constructor)) ?_
 refine yM rfl rfl ?_
 refine yM rfl rfl ?_
 refine yM rfl rfl ?_
 refine aa rfl ((fu (c := true) (ir rfl rfl rfl) (decide_eq_true rfl))) ?_
 refine aa rfl (ck rfl rfl (by constructor)) ?_
 refine yA rfl rfl ?_
 refine yN ?_
 dsimp only [St.put]
 refine K52 _ ?_
 refine yS fun _ K53 => ?_
 refine yS fun _ K54 => ?_
 refine cj 27 ?_
 refine zQ ?_
 rw [hV, hW]
 refine yR ?_
 refine yM rfl rfl ?_
 refine yM rfl rfl ?_
 try dsimp only [St.put]
 refine af rfl (ef rfl rfl rfl (by decide) (by decide) zR (by decide) ?_)
 refine aa rfl (bg rfl rfl rfl) ?_
 refine yM rfl rfl ?_
 refine yN ?_
 dsimp only [St.put]
 refine K54 _ ?_
 refine az ?_
 refine vp 3 ?_
 refine pa fun KR55_0 hKR55_0 => ?_
 refine yS fun _ K56 => ?_
 refine yR ?_
 refine aa rfl (fu (c := true) (cn rfl rfl rfl) (by rfl)) ?_
 refine yN ?_
 dsimp only [St.put]
 refine K56 _ ?_
 refine yS fun _ K57 => ?_
 refine ak rfl (fun _ => ?_) (fun h => by cases h)
 refine av ?_
 refine K57 _ ?_
 refine yS fun _ K58 => ?_
 refine az ?_
 refine yS fun _ K59 => ?_
 refine yR ?_
 try dsimp only [St.put]
 refine aa rfl (bl (k := 0) rfl rfl rfl (by first | rfl | omega) rfl rfl) ?_
 refine yL rfl rfl rfl ?_
 refine yA rfl rfl ?_
 refine yN ?_
 dsimp only [St.put]
 refine K59 _ ?_
 refine yS fun _ K60 => ?_
 refine yR ?_
 refine yM rfl rfl ?_
 refine aa rfl (bg rfl rfl (List.length_map _)) ?_
 refine yM rfl rfl ?_
 refine yN ?_
 dsimp only [St.put]
 refine K60 _ ?_
 refine az ?_
 refine vp 1 ?_
 refine pa fun KR61_0 hKR61_0 => ?_
 refine yS fun _ K62 => ?_
 refine yR ?_
 refine aa rfl (fu (c := false) (cn rfl rfl rfl) (by rfl)) ?_
 refine yN ?_
 dsimp only [St.put]
 refine K62 _ ?_
 refine yS fun _ K63 => ?_
 refine ak rfl (fun h => by cases h) (fun _ => ?_)
 refine cr ?_
 refine K58 _ ?_
 refine yR ?_
 refine aa rfl (br rfl rfl rfl (by omega)) ?_
 refine yM rfl rfl ?_
 refine yN ?_
 dsimp only [St.put]
 refine hKR55_0 _ ?_
 refine pa fun KR55_1 hKR55_1 => ?_
 refine yS fun _ K64 => ?_
 refine yR ?_
 refine aa rfl (fu (c := true) (cn rfl rfl rfl) (by rfl)) ?_
 refine yN ?_
 dsimp only [St.put]
 refine K64 _ ?_
 refine yS fun _ K65 => ?_
 refine ak rfl (fun _ => ?_) (fun h => by cases h)
 refine av ?_
 refine K65 _ ?_
 refine yS fun _ K66 => ?_
 refine az ?_
 refine yS fun _ K67 => ?_
 refine yR ?_
 try dsimp only [St.put]
 refine aa rfl (bl (k := 1) rfl rfl rfl (by first | rfl | omega) rfl rfl) ?_
 refine yL rfl rfl rfl ?_
 refine yA rfl rfl ?_
 refine yN ?_
 dsimp only [St.put]
 refine K67 _ ?_
 refine yS fun _ K68 => ?_
 refine yR ?_
 refine yM rfl rfl ?_
 refine aa rfl (bg rfl rfl (List.length_map _)) ?_
 refine yM rfl rfl ?_
 refine yN ?_
 dsimp only [St.put]
 refine K68 _ ?_
 refine az ?_
 refine vp 1 ?_
 refine pa fun KR69_0 hKR69_0 => ?_
 refine yS fun _ K70 => ?_
 refine yR ?_
 refine aa rfl (fu (c := false) (cn rfl rfl rfl) (by rfl)) ?_
 refine yN ?_
 dsimp only [St.put]
 refine K70 _ ?_
 refine yS fun _ K71 => ?_
 refine ak rfl (fun h => by cases h) (fun _ => ?_)
 refine cr ?_
 refine K66 _ ?_
 refine yR ?_
 refine aa rfl (br rfl rfl rfl (by omega)) ?_
 refine yM rfl rfl ?_
 refine yN ?_
 dsimp only [St.put]
 refine hKR55_1 _ ?_
 refine pa fun KR55_2 hKR55_2 => ?_
 refine yS fun _ K72 => ?_
 refine yR ?_
 refine aa rfl (fu (c := false) (cn rfl rfl rfl) (by rfl)) ?_
 refine yN ?_
 dsimp only [St.put]
 refine K72 _ ?_
 refine yS fun _ K73 => ?_
 refine ak rfl (fun h => by cases h) (fun _ => ?_)
 refine cr ?_
 refine K53 _ ?_
 refine yS fun _ K74 => ?_
 refine yR ?_
 refine yM rfl rfl ?_
 refine yM rfl rfl ?_
 refine yE rfl rfl rfl ?_
 refine yE rfl rfl rfl ?_
 try dsimp only [St.put]
 refine af rfl (ba rfl rfl rfl (uan p) ?_)
 refine aa rfl (ck rfl rfl (by constructor)) ?_
 refine yA rfl rfl ?_
 refine yN ?_
 dsimp only [St.put]
 refine K74 _ ?_
 refine ax ?_
 refine bp rfl (by constructor) zN zS ?_
 rfl
end Go.Proofs.YtgffhbbcpgdjjaaDoor
namespace Go.AB
open Go Go.RowKit Go.ChangeShapes Go.WideShapes
section
variable {H : Type} {enc : TypeId × Value → H} {P : Program} {w : World} {base : Nat} {spare : Nat → Bool} {held : Bool}
end
end Go.AB
