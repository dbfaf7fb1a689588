/-
  What the walks through the program rest on: values, states, steps, calls (ReAsk, RjRests, QoRef, RkTotal, RgSets, QpRef, QqRef, RlChief, SaAlive, PkGuess, SbFacts, SdSums, SgLarge, OpenL, OpenW, OpenS, OpenU, SlWorst, Trod).
-/
import Derived.Test.YtbbdginipiljdaaGreatDoorPartD
import Derived.Test.YtbbdginipiljdaaGreatDoorPartC
import Derived.Test.YtbbdginipiljdaaGreatDoorRows
import Derived.LaidMore
import Derived.RowKitVeiled
import Derived.Carry
namespace Go.AB
open Go Go.RowKit
open Go.AB.Enc (cells)
open Go.PB (aw ai PlaceD bc bg bf bp aq af ci bn cx cz)
def pgC (p : af) (n : Int) : C := bif decide (ec p n = 0) then ji p else .v (.pointer none)
theorem ujz (m : Nat) (p : af) (n : Int) : C.low m (pgC p n) := by
 unfold pgC
 cases decide (ec p n = 0)
 ·exact .v
 exact uct m p
theorem ub9 {p : af} {n : Int} (h : ec p n ≠ 0) : pgC p n = .v (.pointer none) := by unfold pgC; rw [decide_eq_false h]; rfl
theorem sy {p : af} {n : Int} (h : ec p n = 0) : pgC p n = .elem [lst p.text, lst p.firsts, lst p.seconds, lst p.pages, lst (p.pages.map fun x => (ei p.text x : Int)), lst (p.pages.map (dh p.text)), lst (p.pages.map (dw p.text))] := by
 unfold pgC
 rw [decide_eq_true h, cond_true, vt (qi h).1]
theorem rb {α β : Type} {l : List α} {k : Nat} {x : α} (f : α → β) (h : l[k]? = some x) : (l.map f)[k]? = some (f x) := by rw [List.getElem?_map, h]; rfl
end Go.AB
namespace Go.Proofs.YtbbdginipiljdaaGreatDoor
set_option maxRecDepth 10000
open Go Go.RowKit Go.AB
open Go.AB.Enc (cells)
open Go.PB (aw ai PlaceD bc bg bf bp aq af ci bn cx cz)
theorem uio (m : Nat) (b : Bool) : ∀ c ∈ nt b, C.low m c := fun c hc => by
 simp only [List.mem_cons, List.not_mem_nil, or_false] at hc
 rcases hc with rfl | rfl | rfl <;> exact .fn (by simp)
theorem qw (n : Nat) (p : af) (m : Int) : ez n er Tryz.prog 42 [val p, .v (.int .i64 m)] (.tup [pgC p m, .v (.int .i64 (ec p m))]) := fun G nx hF hnx => by
 refine ib (G) (nx) Tryz.func42 rfl (.tup (bz (ujz _ _ _) (bz .v c5))) zN (fun hlt => zH) ?_
 simp only [Tryz.ntmps42, List.length_cons, List.length_nil, Nat.reduceAdd, Nat.reduceSub]
 refine bq fun hlt => ?_
 dsimp only at hlt
 refine yS fun _ K1 => ?_
 refine yR ?_
 try dsimp only [St.put]
 refine yB rfl rfl rfl ?_
 refine yA rfl rfl ?_
 refine yA rfl rfl ?_
 refine yN ?_
 dsimp only [St.put]
 refine K1 _ ?_
 refine yS fun _ K2 => ?_
 refine yR ?_
 refine yE rfl rfl rfl ?_
 try dsimp only [St.put]
 refine ae rfl (d9 rfl rfl rfl (n2 n p) zG (by dsimp only [St.put]; omega) ?_)
 refine yM rfl rfl ?_
 refine yX rfl rfl rfl rfl ?_
 refine yX rfl rfl rfl rfl ?_
 refine yA rfl rfl ?_
 refine yA rfl rfl ?_
 refine yN ?_
 dsimp only [St.put]
 refine K2 _ ?_
 refine yS fun _ K3 => ?_
 refine yS fun _ K4 => ?_
 refine yR ?_
 refine yM rfl rfl ?_
 refine aa rfl (fb rfl rfl rfl) ?_
 refine yN ?_
 dsimp only [St.put]
 refine K4 _ ?_
 refine am rfl (fun hc => ?_) (fun hc => ?_)
 ·have h0 : cj p ≠ 0 := jj hc
  have hE : ec p m = cj p := by simp [ec, h0]
  refine yS fun _ K5 => ?_
  refine yR ?_
  refine yM rfl rfl ?_
  refine yA rfl rfl ?_
  refine yA rfl rfl ?_
  refine yN ?_
  dsimp only [St.put]
  refine K5 _ ?_
  refine ar ?_
  refine jl rfl (by constructor) (by constructor) zN zS ?_ ?_
  ·rw [ub9 (by rw [hE]; exact h0)]
  rw [hE]
 have h0 : cj p = 0 := g6 hc
 have hnp := (lx h0).1.np
 refine av ?_
 refine K3 _ ?_
 refine yS fun _ K6 => ?_
 refine yS fun _ K7 => ?_
 refine yR ?_
 refine yF rfl rfl rfl rfl ?_
 refine yL rfl rfl rfl ?_
 refine aa rfl (bd rfl rfl (List.length_map _)) ?_
 refine aa rfl (fq rfl rfl rfl (by omega)) ?_
 refine yM rfl rfl ?_
 try dsimp only [St.put]
 refine ae rfl (dp rfl rfl rfl (by decide) (by decide) zR (by decide) ?_)
 try dsimp only [St.put]
 refine ae rfl (ay rfl rfl rfl (my _ _ [_]) ?_)
 refine aa rfl (dl rfl rfl) ?_
 refine yN ?_
 dsimp only [St.put]
 refine K7 _ ?_
 refine am rfl (fun hc => ?_) (fun hc => ?_)
 ·have h1 : inB m 0 ((p.pages.length : Int) - 1) = false := by rw [ga] at hc; simpa using hc
  have hE : ec p m = 2 := by simp [ec, h0, h1]
  refine yS fun _ K8 => ?_
  refine yR ?_
  refine yA rfl rfl ?_
  refine yA rfl rfl ?_
  refine yN ?_
  dsimp only [St.put]
  refine K8 _ ?_
  refine ar ?_
  refine jl rfl (by constructor) (by constructor) zN zS ?_ ?_
  ·rw [ub9 (by rw [hE]; decide)]
  rw [hE]
 have h1 : inB m 0 ((p.pages.length : Int) - 1) = true := by rw [ga] at hc; simpa using hc
 have hE : ec p m = 0 := by simp [ec, h0, h1]
 refine av ?_
 refine K6 _ ?_
 refine yS fun _ K9 => ?_
 refine yR ?_
 refine yM rfl rfl ?_
 refine yA rfl rfl ?_
 refine yA rfl rfl ?_
 refine yN ?_
 dsimp only [St.put]
 refine K9 _ ?_
 refine ar ?_
 refine jl rfl (by constructor) (by constructor) zN zS ?_ ?_
 ·unfold pgC; rw [decide_eq_true hE]; rfl
 rw [hE]
theorem uj5 (n : Nat) (p : af) (m : Int) : ez n er Tryz.prog 62 [val p, .v (.int .i64 m)] (.tup [.v (.int .i64 (pq p m)), .v (.int .i64 (ec p m))]) := fun G nx hF hnx => by
 refine ib (G) (nx) Tryz.func62 rfl (.tup (bz .v (bz .v c5))) zN (fun hlt => zH) ?_
 simp only [Tryz.ntmps62, List.length_cons, List.length_nil, Nat.reduceAdd, Nat.reduceSub]
 refine bq fun hlt => ?_
 dsimp only at hlt
 refine yS fun _ K1 => ?_
 refine yR ?_
 try dsimp only [St.put]
 refine yB rfl rfl rfl ?_
 refine yA rfl rfl ?_
 refine yA rfl rfl ?_
 refine yN ?_
 dsimp only [St.put]
 refine K1 _ ?_
 refine yS fun _ K2 => ?_
 refine yR ?_
 refine yE rfl rfl rfl ?_
 refine yM rfl rfl ?_
 try dsimp only [St.put]
 refine ae rfl (d9 rfl rfl rfl (qw n p m) zG (by dsimp only [St.put]; omega) ?_)
 refine yM rfl rfl ?_
 refine yX rfl rfl rfl rfl ?_
 refine yX rfl rfl rfl rfl ?_
 refine yA rfl rfl ?_
 refine yA rfl rfl ?_
 refine yN ?_
 dsimp only [St.put]
 refine K2 _ ?_
 refine yS fun _ K3 => ?_
 refine yS fun _ K4 => ?_
 refine yR ?_
 refine yM rfl rfl ?_
 refine aa rfl (fb rfl rfl rfl) ?_
 refine yN ?_
 dsimp only [St.put]
 refine K4 _ ?_
 refine am rfl (fun hc => ?_) (fun hc => ?_)
 ·have h0 : ec p m ≠ 0 := jj hc
  have hV : pq p m = 0 := by unfold pq; rw [lg h0]
  refine yS fun _ K5 => ?_
  refine yR ?_
  refine yM rfl rfl ?_
  refine yA rfl rfl ?_
  refine yA rfl rfl ?_
  refine yN ?_
  dsimp only [St.put]
  refine K5 _ ?_
  refine ar ?_
  refine jl rfl (by constructor) (by constructor) zN zS ?_ ?_
  ·exact vi hV.symm
  rfl
 have h0 : ec p m = 0 := g6 hc
 obtain ⟨hc0, j, x, rfl, hx, hpo⟩ := qi h0
 have hw := rb (fun x => (ei p.text x : Int)) hx
 have hV : pq p (j : Int) = (ei p.text x : Int) := by unfold pq; rw [h0, hpo]; rfl
 rw [sy h0]
 refine av ?_
 refine K3 _ ?_
 refine yS fun _ K6 => ?_
 refine yR ?_
 refine yM rfl rfl ?_
 refine aa rfl (ku rfl rfl) ?_
 refine yF rfl rfl rfl rfl ?_
 refine yL rfl rfl rfl ?_
 refine yM rfl rfl ?_
 refine aa rfl (bj rfl rfl rfl rfl (bi (by assumption)) (Enc.len _)) ?_
 refine yL rfl rfl rfl ?_
 refine yA rfl rfl ?_
 refine yA rfl rfl ?_
 refine yN ?_
 dsimp only [St.put]
 refine K6 _ ?_
 refine ar ?_
 refine jl rfl (by constructor) (by constructor) zN zS ?_ ?_
 ·exact vi hV.symm
 exact vi h0.symm
theorem uci (n : Nat) (p : af) (m : Int) : ez n er Tryz.prog 64 [val p, .v (.int .i64 m)] (.tup [lst (ph p m), .v (.int .i64 (ec p m))]) := fun G nx hF hnx => by
 refine ib (G) (nx) Tryz.func64 rfl (.tup (bz (br _ _) (bz .v c5))) zN (fun hlt => zH) ?_
 simp only [Tryz.ntmps64, List.length_cons, List.length_nil, Nat.reduceAdd, Nat.reduceSub]
 refine bq fun hlt => ?_
 dsimp only at hlt
 refine yS fun _ K1 => ?_
 refine yR ?_
 try dsimp only [St.put]
 refine yB rfl rfl rfl ?_
 refine yA rfl rfl ?_
 refine yA rfl rfl ?_
 refine yN ?_
 dsimp only [St.put]
 refine K1 _ ?_
 refine yS fun _ K2 => ?_
 refine yR ?_
 refine yE rfl rfl rfl ?_
 refine yM rfl rfl ?_
 try dsimp only [St.put]
 refine ae rfl (d9 rfl rfl rfl (qw n p m) zG (by dsimp only [St.put]; omega) ?_)
 refine yM rfl rfl ?_
 refine yX rfl rfl rfl rfl ?_
 refine yX rfl rfl rfl rfl ?_
 refine yA rfl rfl ?_
 refine yA rfl rfl ?_
 refine yN ?_
 dsimp only [St.put]
 refine K2 _ ?_
 refine yS fun _ K3 => ?_
 refine yS fun _ K4 => ?_
 refine yR ?_
 refine yM rfl rfl ?_
 refine aa rfl (fb rfl rfl rfl) ?_
 refine yN ?_
 dsimp only [St.put]
 refine K4 _ ?_
 refine am rfl (fun hc => ?_) (fun hc => ?_)
 ·have h0 : ec p m ≠ 0 := jj hc
  have hV : ph p m = [] := by unfold ph; rw [lg h0]
  refine yS fun _ K5 => ?_
  refine yR ?_
  refine yM rfl rfl ?_
  refine yA rfl rfl ?_
  refine yA rfl rfl ?_
  refine yN ?_
  dsimp only [St.put]
  refine K5 _ ?_
  refine ar ?_
  refine gz rfl (d7 (by constructor)) (d7 (by constructor)) zN zS ?_ ?_
  ·rw [hV]; exact zW
  exact zW
 have h0 : ec p m = 0 := g6 hc
 obtain ⟨hc0, j, x, rfl, hx, hpo⟩ := qi h0
 have hw := rb (dh p.text) hx
 have hV : ph p (j : Int) = dh p.text x := by unfold ph; rw [h0, hpo]; rfl
 rw [sy h0]
 refine av ?_
 refine K3 _ ?_
 refine yS fun _ K6 => ?_
 refine yR ?_
 refine yM rfl rfl ?_
 refine aa rfl (ku rfl rfl) ?_
 refine yF rfl rfl rfl rfl ?_
 refine yL rfl rfl rfl ?_
 refine yM rfl rfl ?_
 refine aa rfl (bj rfl rfl rfl rfl (bi (by assumption)) (Enc.len _)) ?_
 refine yL rfl rfl rfl ?_
 refine yA rfl rfl ?_
 refine yA rfl rfl ?_
 refine yN ?_
 dsimp only [St.put]
 refine K6 _ ?_
 refine ar ?_
 refine gz rfl (d7 (by constructor)) (d7 (by constructor)) zN zS ?_ ?_
 ·rw [hV]; exact zW
 rw [h0]; exact zW
theorem ukl (n : Nat) (p : af) (m : Int) : ez n er Tryz.prog 65 [val p, .v (.int .i64 m)] (.tup [lst (ru p m), .v (.int .i64 (ec p m))]) := fun G nx hF hnx => by
 refine ib (G) (nx) Tryz.func65 rfl (.tup (bz (br _ _) (bz .v c5))) zN (fun hlt => zH) ?_
 simp only [Tryz.ntmps65, List.length_cons, List.length_nil, Nat.reduceAdd, Nat.reduceSub]
 refine bq fun hlt => ?_
 dsimp only at hlt
 refine yS fun _ K1 => ?_
 refine yR ?_
 try dsimp only [St.put]
 refine yB rfl rfl rfl ?_
 refine yA rfl rfl ?_
 refine yA rfl rfl ?_
 refine yN ?_
 dsimp only [St.put]
 refine K1 _ ?_
 refine yS fun _ K2 => ?_
 refine yR ?_
 refine yE rfl rfl rfl ?_
 refine yM rfl rfl ?_
 try dsimp only [St.put]
 refine ae rfl (d9 rfl rfl rfl (qw n p m) zG (by dsimp only [St.put]; omega) ?_)
 refine yM rfl rfl ?_
 refine yX rfl rfl rfl rfl ?_
 refine yX rfl rfl rfl rfl ?_
 refine yA rfl rfl ?_
 refine yA rfl rfl ?_
 refine yN ?_
 dsimp only [St.put]
 refine K2 _ ?_
 refine yS fun _ K3 => ?_
 refine yS fun _ K4 => ?_
 refine yR ?_
 refine yM rfl rfl ?_
 refine aa rfl (fb rfl rfl rfl) ?_
 refine yN ?_
 dsimp only [St.put]
 refine K4 _ ?_
 refine am rfl (fun hc => ?_) (fun hc => ?_)
 ·have h0 : ec p m ≠ 0 := jj hc
  have hV : ru p m = [] := by unfold ru; rw [lg h0]
  refine yS fun _ K5 => ?_
  refine yR ?_
  refine yM rfl rfl ?_
  refine yA rfl rfl ?_
  refine yA rfl rfl ?_
  refine yN ?_
  dsimp only [St.put]
  refine K5 _ ?_
  refine ar ?_
  refine gz rfl (d7 (by constructor)) (d7 (by constructor)) zN zS ?_ ?_
  ·rw [hV]; exact zW
  exact zW
 have h0 : ec p m = 0 := g6 hc
 obtain ⟨hc0, j, x, rfl, hx, hpo⟩ := qi h0
 have hw := rb (dw p.text) hx
 have hV : ru p (j : Int) = dw p.text x := by unfold ru; rw [h0, hpo]; rfl
 rw [sy h0]
 refine av ?_
 refine K3 _ ?_
 refine yS fun _ K6 => ?_
 refine yR ?_
 refine yM rfl rfl ?_
 refine aa rfl (ku rfl rfl) ?_
 refine yF rfl rfl rfl rfl ?_
 refine yL rfl rfl rfl ?_
 refine yM rfl rfl ?_
 refine aa rfl (bj rfl rfl rfl rfl (bi (by assumption)) (Enc.len _)) ?_
 refine yL rfl rfl rfl ?_
 refine yA rfl rfl ?_
 refine yA rfl rfl ?_
 refine yN ?_
 dsimp only [St.put]
 refine K6 _ ?_
 refine ar ?_
 refine gz rfl (d7 (by constructor)) (d7 (by constructor)) zN zS ?_ ?_
 ·rw [hV]; exact zW
 rw [h0]; exact zW
theorem ukk (n : Nat) (p : af) (b : Bool) (m : Int) : ez n er Tryz.prog 29 [val p, .v (.bool b), .v (.int .i64 m)] (.tup [.v (.int .i64 (oo p b m)), .v (.int .i64 (j4 p b m))]) := fun G nx hF hnx => by
 refine ib (G) (nx) Tryz.func29 rfl (.tup (bz .v (bz .v c5))) zN (fun hlt => zH) ?_
 simp only [Tryz.ntmps29, List.length_cons, List.length_nil, Nat.reduceAdd, Nat.reduceSub]
 refine bq fun hlt => ?_
 dsimp only at hlt
 refine yS fun _ K1 => ?_
 refine yR ?_
 try dsimp only [St.put]
 refine yB rfl rfl rfl ?_
 refine yA rfl rfl ?_
 refine yA rfl rfl ?_
 refine yN ?_
 dsimp only [St.put]
 refine K1 _ ?_
 refine yS fun _ K2 => ?_
 refine yR ?_
 refine yE rfl rfl rfl ?_
 try dsimp only [St.put]
 refine ae rfl (d9 rfl rfl rfl (n2 n p) zG (by dsimp only [St.put]; omega) ?_)
 refine yM rfl rfl ?_
 refine yX rfl rfl rfl rfl ?_
 refine yX rfl rfl rfl rfl ?_
 refine yA rfl rfl ?_
 refine yA rfl rfl ?_
 refine yN ?_
 dsimp only [St.put]
 refine K2 _ ?_
 refine yS fun _ K3 => ?_
 refine yS fun _ K4 => ?_
 refine yR ?_
 refine yM rfl rfl ?_
 refine aa rfl (fb rfl rfl rfl) ?_
 refine yN ?_
 dsimp only [St.put]
 refine K4 _ ?_
 refine am rfl (fun hc => ?_) (fun hc => ?_)
 ·have h0 : cj p ≠ 0 := jj hc
  have hE : j4 p b m = cj p := by simp [j4, h0]
  refine yS fun _ K5 => ?_
  refine yR ?_
  refine yM rfl rfl ?_
  refine yA rfl rfl ?_
  refine yA rfl rfl ?_
  refine yN ?_
  dsimp only [St.put]
  refine K5 _ ?_
  refine ar ?_
  refine jl rfl (by constructor) (by constructor) zN zS ?_ ?_
  ·exact vi (by simp [oo, atE, hE, h0])
  exact vi hE.symm
 have h0 : cj p = 0 := g6 hc
 obtain ⟨hok, _⟩ := lx h0
 have hn1 := hok.nf
 have hn2 := hok.ns
 have hsl : (dj p b).length ≤ 3 := by
  cases b
  ·exact hn1
  exact hn2
 rw [vt h0]
 refine av ?_
 refine K3 _ ?_
 refine yS fun _ K6 => ?_
 refine yR ?_
 try dsimp only [St.put]
 refine aa rfl (uc4 (j := n) (k := 0) (m := 2) (sz := 3) rfl rfl zG rfl rfl (by decide) rfl) ?_
 try dsimp only [St.put]
 refine bw rfl (c := .agg (nt false)) (i4 (cs := sidL) rfl rfl (show 3 ≤ 6 by decide)) ?_
 try dsimp only [St.put]
 refine ae rfl (dx rfl ?_)
 try dsimp only [St.put]
 refine ae rfl (c6 rfl rfl rfl zG rfl rfl (by rfl) ?_)
 refine yN ?_
 dsimp only [St.put]
 refine K6 _ ?_
 refine cb 13 ?_
 refine zQ ?_
 refine j0 (X := Nat) (fun wv => True) (fun wv => []) (fun wv G' => ak G nx (.box wv (nt b))) rfl ?_ ?_ ?_ ?_
 ·rintro wv hI
  exact zL
 ·rintro wv hI
  exact (by (repeat' (refine k6 ?_ (by (try dsimp only); omega) ?_)); all_goals (first | exact k7 zS | (repeat' (first | exact trivial | refine ⟨?_, ?_⟩ | exact .v | exact .any | refine .elem ?_ | exact br _ _ | exact fg _ _ | exact eb _ _ | exact fj _ (by (try dsimp only); omega) | exact .box (by (try dsimp only); omega) | exact e8 | exact c5 | exact uio _ _ | refine fp ?_ ?_ | exact .arr (by (try dsimp only); omega) | exact .own (by (try dsimp only); omega) | exact .map (by (try dsimp only); omega) | exact eh _ | refine bz ?_ ?_ | exact br _ _))))
 ·refine yS fun _ K8 => ?_
  refine yR ?_
  refine yM rfl rfl ?_
  refine yN ?_
  dsimp only [St.put]
  refine K8 _ ?_
  refine am rfl (fun hc => ?_) (fun hc => ?_)
  ·obtain rfl : b = true := hc
   have hyes : True := trivial
   refine yR ?_
   try dsimp only [St.put]
   refine aa rfl (uc4 (j := n) (k := 1) (m := 2) (sz := 3) rfl rfl zG rfl rfl (by decide) rfl) ?_
   try dsimp only [St.put]
   refine bw rfl (d8 rfl rfl rfl) ?_
   try dsimp only [St.put]
   refine ae rfl (c6 rfl rfl rfl zG rfl rfl (by rfl) ?_)
   refine yN ?_
   dsimp only [St.put]
   first
   | exact ⟨1 + 1, hyes, ⟨⟨rfl, rfl⟩, zF, zB, zN, zX⟩⟩
   | exact ⟨1, hno, ⟨⟨rfl, rfl⟩, zF, zB, zN, zX⟩⟩
  obtain rfl : b = false := hc
  have hno : True := trivial
  refine av ?_
  first
  | exact ⟨1 + 1, hyes, ⟨⟨rfl, rfl⟩, zF, zB, zN, zX⟩⟩
  | exact ⟨1, hno, ⟨⟨rfl, rfl⟩, zF, zB, zN, zX⟩⟩
 rintro wv hI
 dsimp only at hI ⊢
 refine yS fun _ K9 => ?_
 refine yS fun _ K10 => ?_
 refine yR ?_
 refine aa rfl (em rfl rfl) ?_
 try dsimp only [St.put]
 refine bw rfl (f7 rfl rfl zG trivial (by first | rfl | assumption)) ?_
 refine yE rfl rfl rfl ?_
 try dsimp only [St.put]
 refine ae rfl (ay rfl rfl rfl (oz b p) ?_)
 refine aa rfl (bd rfl rfl (List.length_map _)) ?_
 refine aa rfl (fq rfl rfl rfl (by omega)) ?_
 refine yM rfl rfl ?_
 try dsimp only [St.put]
 refine ae rfl (dp rfl rfl rfl (by decide) (by decide) zR (by decide) ?_)
 try dsimp only [St.put]
 refine ae rfl (ay rfl rfl rfl (my _ _ [_]) ?_)
 refine aa rfl (dl rfl rfl) ?_
 refine yN ?_
 dsimp only [St.put]
 refine K10 _ ?_
 refine am rfl (fun hc => ?_) (fun hc => ?_)
 ·have h1 : inB m 0 (((dj p b).length : Int) - 1) = false := by rw [ga] at hc; simpa using hc
  have hE : j4 p b m = 2 := by simp [j4, h0, h1]
  refine yS fun _ K11 => ?_
  refine yR ?_
  refine yA rfl rfl ?_
  refine yA rfl rfl ?_
  refine yN ?_
  dsimp only [St.put]
  refine K11 _ ?_
  refine ar ?_
  refine jl rfl (by constructor) (by constructor) zN zS ?_ ?_
  ·exact vi (by simp [oo, atE, hE])
  exact vi hE.symm
 have h1 : inB m 0 (((dj p b).length : Int) - 1) = true := by rw [ga] at hc; simpa using hc
 have hE : j4 p b m = 0 := by simp [j4, h0, h1]
 obtain ⟨j, hj⟩ : ∃ j : Nat, m = (j : Int) := ⟨m.toNat, by have := inB_true.1 h1; omega⟩
 subst hj
 have hjl : j < (dj p b).length := by have := inB_true.1 h1; omega
 have hV : oo p b (j : Int) = jn p b j := by simp [oo, atE, hE]
 refine av ?_
 refine K9 _ ?_
 refine yS fun _ K12 => ?_
 refine yR ?_
 refine yM rfl rfl ?_
 try dsimp only [St.put]
 refine bw rfl (iy rfl rfl zG trivial (by rfl)) ?_
 refine yM rfl rfl ?_
 try dsimp only [St.put]
 refine ae rfl (ay rfl rfl rfl (ucb p b j hok hjl) ?_)
 refine yM rfl rfl ?_
 refine yX rfl rfl rfl rfl ?_
 refine yX rfl rfl rfl rfl ?_
 refine yA rfl rfl ?_
 refine yA rfl rfl ?_
 refine yN ?_
 dsimp only [St.put]
 refine K12 _ ?_
 refine yS fun _ K13 => ?_
 refine yR ?_
 refine yM rfl rfl ?_
 refine yA rfl rfl ?_
 refine yA rfl rfl ?_
 refine yN ?_
 dsimp only [St.put]
 refine K13 _ ?_
 refine ar ?_
 refine jl rfl (by constructor) (by constructor) zN zS ?_ ?_
 ·exact vi hV.symm
 exact vi hE.symm
theorem ukh (n : Nat) (p : af) (m : Int) : ez n er Tryz.prog 66 [val p, .v (.int .i64 m)] (.tup [val (n8 p m), .v (.int .i64 (m8 p m))]) := fun G nx hF hnx => by
 refine ib (G) (nx) Tryz.func66 rfl (.tup (bz (eb _ _) (bz .v c5))) zN (fun hlt => zH) ?_
 simp only [Tryz.ntmps66, List.length_cons, List.length_nil, Nat.reduceAdd, Nat.reduceSub]
 refine bq fun hlt => ?_
 dsimp only at hlt
 refine yS fun _ K1 => ?_
 refine yR ?_
 try dsimp only [St.put]
 refine yB rfl rfl rfl ?_
 try dsimp only [St.put]
 refine ae rfl (dx rfl ?_)
 refine yA rfl rfl ?_
 refine yN ?_
 dsimp only [St.put]
 refine K1 _ ?_
 refine yS fun _ K2 => ?_
 refine yR ?_
 refine yE rfl rfl rfl ?_
 refine yM rfl rfl ?_
 try dsimp only [St.put]
 refine ae rfl (d9 rfl rfl rfl (qw n p m) zG (by dsimp only [St.put]; omega) ?_)
 refine yM rfl rfl ?_
 refine yX rfl rfl rfl rfl ?_
 refine yX rfl rfl rfl rfl ?_
 refine yA rfl rfl ?_
 refine yA rfl rfl ?_
 refine yN ?_
 dsimp only [St.put]
 refine K2 _ ?_
 refine yS fun _ K3 => ?_
 refine yS fun _ K4 => ?_
 refine yR ?_
 refine yM rfl rfl ?_
 refine aa rfl (fb rfl rfl rfl) ?_
 refine yN ?_
 dsimp only [St.put]
 refine K4 _ ?_
 refine am rfl (fun hc => ?_) (fun hc => ?_)
 ·have h0 : ec p m ≠ 0 := jj hc
  have hE : m8 p m = ec p m := by unfold m8; rw [decide_eq_false h0]; rfl
  have hV : n8 p m = ⟨0, 0⟩ := by unfold n8; rw [hE, lg h0]
  refine yS fun _ K5 => ?_
  refine yR ?_
  refine aa rfl (g7 rfl rfl) ?_
  refine yM rfl rfl ?_
  try dsimp only [St.put]
  refine ae rfl (c6 rfl rfl rfl zG rfl rfl (by rfl) ?_)
  refine yA rfl rfl ?_
  refine yN ?_
  dsimp only [St.put]
  refine K5 _ ?_
  refine ar ?_
  refine gz rfl (ju rfl zG (by rfl) zC rfl) (d7 (by constructor)) zN zS ?_ ?_
  ·rw [hV]; exact zW
  rw [hE]; exact zW
 have h0 : ec p m = 0 := g6 hc
 obtain ⟨hc0, j, x, rfl, hx, hpo⟩ := qi h0
 obtain ⟨hok, _⟩ := lx hc0
 have hp := pageB_true.1 (hok.page j x hx)
 have hal := lh hok.text
 have hfl := lu hp.found
 have hwl := lu hp.well
 have hbl := ufd p.text x
 have hw := rb (dw p.text) hx
 rw [sy h0]
 refine av ?_
 refine K3 _ ?_
 refine yS fun _ K6 => ?_
 refine yR ?_
 refine yM rfl rfl ?_
 refine aa rfl (ku rfl rfl) ?_
 refine yF rfl rfl rfl rfl ?_
 refine yL rfl rfl rfl ?_
 refine yM rfl rfl ?_
 refine aa rfl (bj rfl rfl rfl rfl (bi (by assumption)) (Enc.len _)) ?_
 refine yL rfl rfl rfl ?_
 refine aa rfl (bd rfl rfl (List.length_map _)) ?_
 refine yA rfl rfl ?_
 refine yN ?_
 dsimp only [St.put]
 refine K6 _ ?_
 refine yS fun _ K7 => ?_
 refine yS fun _ K8 => ?_
 refine yR ?_
 refine yM rfl rfl ?_
 refine aa rfl (ff rfl rfl rfl) ?_
 refine yN ?_
 dsimp only [St.put]
 refine K8 _ ?_
 refine am rfl (fun hc => ?_) (fun hc => ?_)
 ·have hk : (dw p.text x).length = 0 := by have := of_decide_eq_true hc; omega
  have hE : m8 p (j : Int) = 6 := by unfold m8; rw [h0, hpo, decide_eq_true hk]; rfl
  have hV : n8 p (j : Int) = ⟨0, 0⟩ := by unfold n8; rw [hE, lg (by decide)]
  refine yS fun _ K9 => ?_
  refine yR ?_
  refine aa rfl (g7 rfl rfl) ?_
  try dsimp only [St.put]
  refine ae rfl (c6 rfl rfl rfl zG rfl rfl (by rfl) ?_)
  refine yA rfl rfl ?_
  refine yN ?_
  dsimp only [St.put]
  refine K9 _ ?_
  refine ar ?_
  refine gz rfl (ju rfl zG (by rfl) zC rfl) (d7 (by constructor)) zN zS ?_ ?_
  ·rw [hV]; exact zW
  rw [hE]; exact zW
 have hk : ¬ (dw p.text x).length = 0 := by have := of_decide_eq_false hc; omega
 obtain ⟨hE, hV⟩ := umm h0 hpo rfl hk
 have hfw : x.found.length * x.well.length ≤ 600 * 600 := Nat.mul_le_mul (by omega) (by omega)
 have hfc := Int.natCast_mul x.found.length x.well.length
 have hjl := (List.getElem?_eq_some_iff.1 hx).1
 refine av ?_
 refine K7 _ ?_
 refine yS fun _ K10 => ?_
 refine fk [(0, none), (1, none), (2, none), (3, none), (4, none), (5, none), (6, none), (7, none), (8, none), (9, none), (10, none), (11, none), (12, none), (13, none), (14, none), (15, none)] (fun i => [].contains i) (fun i => [].contains i) (fun i => [0, 2, 3, 4, 6, 7, 9, 10, 11, 13, 14, 15].contains i) [] (by kernel_rfl) (by kernel_rfl) ?_
 refine ah rfl rfl rfl rfl (ce rfl rfl rfl) ?_
 try dsimp only [St.put]
 refine ax rfl rfl rfl rfl (bv rfl rfl) ?_
 refine xM rfl rfl rfl rfl rfl ?_
 try dsimp only [St.put]
 refine ah rfl rfl rfl rfl (bj rfl rfl rfl rfl (bi (by assumption)) (Enc.len _)) ?_
 refine ah rfl rfl rfl rfl (ce rfl rfl rfl) ?_
 try dsimp only [St.put]
 refine ax rfl rfl rfl rfl (bv rfl rfl) ?_
 refine ah rfl rfl rfl rfl (bd rfl rfl (List.length_map _)) ?_
 refine ah rfl rfl rfl rfl (ce rfl rfl rfl) ?_
 try dsimp only [St.put]
 refine ax rfl rfl rfl rfl (bv rfl rfl) ?_
 refine xM rfl rfl rfl rfl rfl ?_
 try dsimp only [St.put]
 refine ah rfl rfl rfl rfl (bj rfl rfl rfl rfl (bi (by assumption)) (Enc.len _)) ?_
 refine ah rfl rfl rfl rfl (ce rfl rfl rfl) ?_
 try dsimp only [St.put]
 refine ax rfl rfl rfl rfl (bv rfl rfl) ?_
 refine ah rfl rfl rfl rfl (bd rfl rfl (List.length_map _)) ?_
 refine ah rfl rfl rfl rfl (tj rfl rfl rfl (by omega)) ?_
 refine ah rfl rfl rfl rfl (et rfl (by constructor)) ?_
 refine cg ?_
 dsimp only [St.put]
 rw [show (x.found.length : Int) * (x.well.length : Int) = ((x.found.length * x.well.length : Nat) : Int) from hfc.symm]
 obtain ⟨M, hM⟩ : ∃ M, x.found.length * x.well.length = M := ⟨_, rfl⟩
 obtain ⟨K, hK⟩ : ∃ K, (dw p.text x).length = K := ⟨_, rfl⟩
 have hV2 : n8 p (j : Int) = ⟨(M : Int) / (K : Int), ((M : Int) + (K : Int) - 1) / (K : Int)⟩ := by
  rw [hV]
  unfold zk
  rw [hM, hK, Int.natCast_ediv, Int.natCast_ediv, show ((M + K - 1 : Nat) : Int) = (M : Int) + (K : Int) - 1 by omega]
 rw [hM] at hfw
 rw [hK] at hk hbl
 rw [hM, hK]
 refine K10 _ ?_
 refine yS fun _ K11 => ?_
 refine fk [(0, none), (1, none), (2, none), (3, none), (4, none), (5, none), (6, none), (7, none), (8, none), (9, none), (10, none), (11, none)] (fun i => [10].contains i) (fun i => [10].contains i) (fun i => [0, 1, 2, 3, 4, 5, 6, 7, 8, 9, 11].contains i) [] (by kernel_rfl) (by kernel_rfl) ?_
 refine xM rfl rfl rfl rfl rfl ?_
 refine xM rfl rfl rfl rfl rfl ?_
 refine ah rfl rfl rfl rfl (ti rfl rfl rfl (by omega) (by omega)) ?_
 refine xM rfl rfl rfl rfl rfl ?_
 refine xM rfl rfl rfl rfl rfl ?_
 refine ah rfl rfl rfl rfl (bl rfl rfl rfl (by omega)) ?_
 refine ah rfl rfl rfl rfl (fq rfl rfl rfl (by omega)) ?_
 refine xM rfl rfl rfl rfl rfl ?_
 refine ah rfl rfl rfl rfl (ti rfl rfl rfl (by omega) (by omega)) ?_
 refine ah rfl rfl rfl rfl (g7 rfl rfl) ?_
 refine gw ?_
 try dsimp only [St.put]
 refine gr rfl rfl rfl rfl (c6 rfl rfl rfl zG rfl rfl (by rfl) ?_)
 refine dd rfl rfl rfl rfl (et rfl (by constructor)) ?_
 refine gl ?_
 dsimp only [St.put]
 refine K11 _ ?_
 refine ar ?_
 refine gz rfl (ju rfl zG (by rfl) zC rfl) (d7 (by constructor)) zN zS ?_ ?_
 ·rw [hV2]; exact zW
 rw [hE]; exact zW
end Go.Proofs.YtbbdginipiljdaaGreatDoor
namespace Go.AB
open Go Go.RowKit
open Go.AB.Enc (cells)
open Go.PB (aw ai PlaceD bc bg bf bp aq af ci bn cx cz)
/-- who has read a page, of some sides -/
def o4 (p : af) (x : aq) : Nat → List Int
 | 0 => []
 | k + 1 => o4 p x k ++ bif decide (0 ≤ dv (decide (k = 1)) x) then [(sdN p k : Int) + dv (decide (k = 1)) x] else []
theorem ujn (p : af) (x : aq) : o4 p x 2 = di p x := by
 show ([] ++ bif decide (0 ≤ x.fst) then [((0 : Nat) : Int) + x.fst] else []) ++ (bif decide (0 ≤ x.snd) then [(p.firsts.length : Int) + x.snd] else []) = di p x
 rw [List.nil_append, show ((0 : Nat) : Int) + x.fst = x.fst by omega]
 rfl
theorem uby (p : af) (x : aq) : ∀ k, (o4 p x k).length ≤ k
 | 0 => Nat.le_refl _
 | k + 1 => by
  have := uby p x k
  simp only [o4, List.length_append]
  cases decide (0 ≤ dv (decide (k = 1)) x)
  ·rw [cond_false]; simp; omega
  rw [cond_true]; simp; omega
theorem ulm {α β : Type} {l : List α} {j : Nat} {x : α} (f : α → β) (h : l[j]? = some x) : (l.take (j + 1)).map f = (l.take j).map f ++ [f x] := by rw [List.take_add_one, h, Option.toList_some, List.map_append]; rfl
theorem ul2 {p : af} : (!(bh (bx p) (cm p)).any fun n => decide (n < 0)) = g4 p := by
 rw [Bool.eq_iff_iff, Bool.not_eq_true', ← Bool.not_eq_true, List.any_eq_true]
 unfold g4 bh
 rw [List.all_eq_true]
 constructor
 ·intro h i hi
  refine decide_eq_true ?_
  rcases Int.lt_or_le (cm p i) 0 with q | q
  ·exact absurd ⟨_, List.mem_map.2 ⟨i, hi, rfl⟩, decide_eq_true q⟩ h
  exact q
 rintro h ⟨z, hz, hl⟩
 obtain ⟨i, hi, rfl⟩ := List.mem_map.1 hz
 have := of_decide_eq_true (h i hi)
 have := of_decide_eq_true hl
 omega
end Go.AB
namespace Go.Proofs.YtbbdginipiljdaaGreatDoor
set_option maxRecDepth 10000
open Go Go.RowKit Go.AB
open Go.AB.Enc (cells)
open Go.PB (aw ai PlaceD bc bg bf bp aq af ci bn cx cz)
theorem ui9 (z : Int) : Pure Tryz.prog 98 [.v (.int .i64 z)] (.v (.bool (decide (z < 0)))) := by
 refine co Tryz.func98 rfl (fun m => .v) fun G nx => ?_
 simp only [Tryz.ntmps98, List.length_cons, List.length_nil, Nat.reduceAdd, Nat.reduceSub]
 refine bq fun hlt => ?_
 dsimp only at hlt
 refine yS fun _ K1 => ?_
 refine yR ?_
 refine yA rfl rfl ?_
 refine yN ?_
 dsimp only [St.put]
 refine K1 _ ?_
 refine yS fun _ K2 => ?_
 refine yR ?_
 refine yM rfl rfl ?_
 refine aa rfl (ca rfl rfl rfl) ?_
 refine yA rfl rfl ?_
 refine yN ?_
 dsimp only [St.put]
 refine K2 _ ?_
 refine ar ?_
 refine ba rfl (by constructor) zN zS ?_
 rfl
theorem ulz (p : af) : Pure Tryz.prog 97 [.elem (j5 p)] (.fn (.func 110) [.elem [.elem (j5 p)]]) := by
 refine co Tryz.func97 rfl (fun m => (.fn (bz (.elem (bz (.elem (bz (br _ _) (bz (br _ _) (bz (br _ _) (bz (br _ _) (bz (br _ _) (bz (br _ _) (bz (br _ _) c5)))))))) c5)) c5))) fun G nx => ?_
 simp only [Tryz.ntmps97, List.length_cons, List.length_nil, Nat.reduceAdd, Nat.reduceSub]
 refine bq fun hlt => ?_
 dsimp only at hlt
 refine yS fun _ K1 => ?_
 refine yR ?_
 try dsimp only [St.put]
 refine yB rfl rfl rfl ?_
 refine yA rfl rfl ?_
 refine yN ?_
 dsimp only [St.put]
 refine K1 _ ?_
 refine yS fun _ K2 => ?_
 refine yR ?_
 refine aa rfl (py rfl rfl) ?_
 refine yA rfl rfl ?_
 refine yN ?_
 dsimp only [St.put]
 refine K2 _ ?_
 refine ar ?_
 refine ba rfl (by constructor) zN zS ?_
 rfl
set_option maxHeartbeats 2000000 in
theorem ukd (n : Nat) (p : af) (h : dz p) : ez n er Tryz.prog 79 [.elem (j5 p)] (.tup [val (f8 p (cm p) (cy p)), .v (.bool (g4 p))]) := fun G nx hF hnx => by
 refine ib (G) (nx) Tryz.func79 rfl (.tup (bz (eb _ _) (bz .v c5))) zN (fun hlt => zH) ?_
 simp only [Tryz.ntmps79, List.length_cons, List.length_nil, Nat.reduceAdd, Nat.reduceSub]
 refine bq fun hlt => ?_
 dsimp only at hlt
 have hn1 := h.nf
 have hn2 := h.ns
 have hnp := h.np
 have hnr : bx p = p.firsts.length + p.seconds.length := rfl
 have hal := lh h.text
 refine yS fun _ K1 => ?_
 refine yR ?_
 try dsimp only [St.put]
 refine ae rfl (dx rfl ?_)
 refine yA rfl rfl ?_
 refine yN ?_
 dsimp only [St.put]
 refine K1 _ ?_
 refine yS fun _ K2 => ?_
 refine yR ?_
 try dsimp only [St.put]
 refine ae rfl (dx rfl ?_)
 refine yN ?_
 dsimp only [St.put]
 refine K2 _ ?_
 refine ry (nx + 1) 0 _ _ 3 1 zG rfl (by decide) ?_
 refine ry (nx + 1) 1 _ _ 3 1 zG rfl (by decide) ?_
 refine ry (nx + 1) 2 _ _ 40 1 zG rfl (by decide) ?_
 dsimp only [List.set_cons_zero, List.set_cons_succ]
 refine yS fun _ K3 => ?_
 refine yS fun _ K4 => ?_
 refine yR ?_
 refine yM rfl rfl ?_
 try dsimp only [St.put]
 refine ae rfl (ay rfl rfl rfl (ulz p) ?_)
 refine yN ?_
 dsimp only [St.put]
 refine K4 _ ?_
 refine az ?_
 refine cb 15 ?_
 refine zQ ?_
 refine ct ((ak (ak (ak (ak (ak G nx (.box 0 [.list [] .nil, .list [] .nil, .list [] .nil])) (nx + 1) (.box (0) [.list ((bh 0 (cm p)).map cells) (.tip (nx + 1 + 1)), .list ((bh 0 (cy p)).map cells) (.tip (nx + 1 + 1 + 1)), .list (((p.pages.take 0).map (di p)).map cells) (.tip (nx + 1 + 1 + 1 + 1))])) (nx + 1 + 1) (.tip (bh 0 (cm p)).length 3 1)) (nx + 1 + 1 + 1) (.tip (bh 0 (cy p)).length 3 1)) (nx + 1 + 1 + 1 + 1) (.tip ((p.pages.take 0).map (di p)).length 40 1))) zX ?_
 dsimp only
 refine ufo [15] (fun k => (ak (ak (ak (ak (ak G nx (.box 0 [.list [] .nil, .list [] .nil, .list [] .nil])) (nx + 1) (.box (k) [.list ((bh k (cm p)).map cells) (.tip (nx + 1 + 1)), .list ((bh 0 (cy p)).map cells) (.tip (nx + 1 + 1 + 1)), .list (((p.pages.take 0).map (di p)).map cells) (.tip (nx + 1 + 1 + 1 + 1))])) (nx + 1 + 1) (.tip (bh k (cm p)).length 3 1)) (nx + 1 + 1 + 1) (.tip (bh 0 (cy p)).length 3 1)) (nx + 1 + 1 + 1 + 1) (.tip ((p.pages.take 0).map (di p)).length 40 1))) (fun k => [(15, .v (.int .i64 (cm p k)))]) (ul0 n p h) (fun k => zG) (by (try dsimp only); omega) rfl rfl (fun _ => rfl) ?_ ?_ ?_ (fun lr k hrk => ?_) ?_
 ·intro k
  rfl
 ·exact zX
 ·intro k
  exact zH
 ·have hll := gu k (cm p)
  refine yR ?_
  refine yA rfl rfl ?_
  refine yN ?_
  dsimp only [St.put]
  show AW _ _ _ _ _
  refine az ?_
  refine yR ?_
  refine aa rfl (em rfl rfl) ?_
  try dsimp only [St.put]
  refine bw rfl (f7 rfl rfl zG trivial (by first | rfl | assumption)) ?_
  refine yM rfl rfl ?_
  try dsimp only [St.put]
  refine ae rfl (dp rfl rfl rfl (by decide) (by decide) zR (by decide) ?_)
  try dsimp only [St.put]
  refine ae rfl (jr ([cm p k]) rfl rfl zG zE rfl rfl zA ?_ zA)
  refine aa rfl (em rfl rfl) ?_
  try dsimp only [St.put]
  refine ae rfl (kd rfl rfl rfl zG (by constructor) rfl zO ?_)
  refine yN ?_
  dsimp only [St.put]
  rw [← sl k (cm p)]
  exact zX
 dsimp only
 refine K3 _ ?_
 refine yS fun _ K5 => ?_
 refine yS fun _ K6 => ?_
 refine yR ?_
 refine yM rfl rfl ?_
 refine aa rfl (ku rfl rfl) ?_
 refine yF rfl rfl rfl rfl ?_
 refine yF rfl rfl rfl rfl ?_
 refine yL rfl rfl rfl ?_
 refine aa rfl (bd rfl rfl (List.length_map _)) ?_
 refine yM rfl rfl ?_
 refine yN ?_
 dsimp only [St.put]
 refine K6 _ ?_
 refine az ?_
 refine cb 29 ?_
 refine zQ ?_
 refine ct ((ak (ak (ak (ak (ak G nx (.box 0 [.list [] .nil, .list [] .nil, .list [] .nil])) (nx + 1) (.box ((bx p)) [.list ((bh (bx p) (cm p)).map cells) (.tip (nx + 1 + 1)), .list ((bh 0 (cy p)).map cells) (.tip (nx + 1 + 1 + 1)), .list (((p.pages.take 0).map (di p)).map cells) (.tip (nx + 1 + 1 + 1 + 1))])) (nx + 1 + 1) (.tip (bh (bx p) (cm p)).length 3 1)) (nx + 1 + 1 + 1) (.tip (bh 0 (cy p)).length 3 1)) (nx + 1 + 1 + 1 + 1) (.tip ((p.pages.take 0).map (di p)).length 40 1))) zX ?_
 dsimp only
 refine cr (X := Nat) (fun j => j ≤ p.pages.length) (fun j => p.pages.length - j) (fun j => [(6, .any), (7, .any), (8, .any), (9, .any), (10, .any), (11, .any), (12, .any), (28, .v (.int .i64 (j : Int)))]) (fun j G' => (ak (ak (ak (ak (ak G nx (.box 0 [.list [] .nil, .list [] .nil, .list [] .nil])) (nx + 1) (.box ((bx p + 2 * j)) [.list ((bh (bx p) (cm p)).map cells) (.tip (nx + 1 + 1)), .list ((bh j (cy p)).map cells) (.tip (nx + 1 + 1 + 1)), .list (((p.pages.take j).map (di p)).map cells) (.tip (nx + 1 + 1 + 1 + 1))])) (nx + 1 + 1) (.tip (bh (bx p) (cm p)).length 3 1)) (nx + 1 + 1 + 1) (.tip (bh j (cy p)).length 3 1)) (nx + 1 + 1 + 1 + 1) (.tip ((p.pages.take j).map (di p)).length 40 1))) 0 rfl ?_ ?_ ?_ ?_ ?_ ?_
 ·exact Nat.zero_le _
 ·exact zF
 ·exact zX
 ·rintro j hI
  exact zL
 ·rintro j hI
  exact zH
 rintro j hJ
 dsimp only at hJ ⊢
 refine yS fun _ K7 => ?_
 refine yR ?_
 refine aa rfl (ca rfl rfl rfl) ?_
 refine yN ?_
 dsimp only [St.put]
 refine K7 _ ?_
 refine yS fun _ K8 => ?_
 refine am rfl (fun hc => ?_) (fun hc => ?_)
 ·replace hc := of_decide_eq_true hc
  obtain ⟨x, hx⟩ : ∃ x, p.pages[j]? = some x := cw (by omega)
  have hw1 : (p.pages.map fun x => (ei p.text x : Int))[j]? = some (ei p.text x : Int) := rb (fun x => (ei p.text x : Int)) hx
  have hw2 := rb (dh p.text) hx
  have hgl := rp p.text x
  have hwx := uv p.text x
  have hll := gu j (cy p)
  have hp := pageB_true.1 (h.page j x hx)
  have hp1 := hp.fst
  have hp2 := hp.snd
  have hll2 : ((p.pages.take j).map (di p)).length ≤ 8 := by rw [List.length_map, List.length_take]; omega
  refine av ?_
  refine K8 _ ?_
  refine yS fun _ K9 => ?_
  refine az ?_
  refine yS fun _ K10 => ?_
  refine yR ?_
  refine yM rfl rfl ?_
  refine aa rfl (bj rfl rfl rfl rfl (bi (by assumption)) (Enc.len _)) ?_
  refine yE rfl rfl rfl ?_
  try dsimp only [St.put]
  refine ae rfl (dx rfl ?_)
  refine yA rfl rfl ?_
  try dsimp only [St.put]
  refine ae rfl (c6 rfl rfl rfl zG rfl rfl (by rfl) ?_)
  refine yN ?_
  dsimp only [St.put]
  refine K10 _ ?_
  refine gg (i := 7) rfl zG zC ?_
  dsimp only
  refine yS fun _ K11 => ?_
  refine fk [(0, none), (1, none), (2, none), (3, none), (4, none), (5, none), (6, none), (7, none), (8, none), (9, none), (10, none), (11, none), (12, none), (13, none), (14, none), (15, none), (16, none), (17, none), (18, none), (19, none), (20, none), (21, none)] (fun i => [19, 21].contains i) (fun i => [18, 19, 21].contains i) (fun i => [0, 2, 3, 4, 6, 7, 9, 10, 11, 13, 14, 16, 17, 20].contains i) [nx + 1] (by kernel_rfl) (by kernel_rfl) ?_
  refine ah rfl rfl rfl rfl (em rfl rfl) ?_
  try dsimp only [St.put]
  refine ax rfl rfl rfl rfl (f7 rfl rfl zG (by simp) (by first | rfl | assumption)) ?_
  refine xM rfl rfl rfl rfl rfl ?_
  refine ah rfl rfl rfl rfl (ku rfl rfl) ?_
  refine ah rfl rfl rfl rfl (ce rfl rfl rfl) ?_
  try dsimp only [St.put]
  refine ax rfl rfl rfl rfl (bv rfl rfl) ?_
  refine xM rfl rfl rfl rfl rfl ?_
  try dsimp only [St.put]
  refine ah rfl rfl rfl rfl (bj rfl rfl rfl rfl (bi (by assumption)) (Enc.len _)) ?_
  try dsimp only [St.put]
  refine ax rfl rfl rfl rfl (bv rfl rfl) ?_
  refine xM rfl rfl rfl rfl rfl ?_
  refine ah rfl rfl rfl rfl (ku rfl rfl) ?_
  refine ah rfl rfl rfl rfl (ce rfl rfl rfl) ?_
  try dsimp only [St.put]
  refine ax rfl rfl rfl rfl (bv rfl rfl) ?_
  refine xM rfl rfl rfl rfl rfl ?_
  try dsimp only [St.put]
  refine ah rfl rfl rfl rfl (bj rfl rfl rfl rfl (bi (by assumption)) (Enc.len _)) ?_
  try dsimp only [St.put]
  refine ax rfl rfl rfl rfl (bv rfl rfl) ?_
  refine ah rfl rfl rfl rfl (bd rfl rfl (List.length_map _)) ?_
  refine ah rfl rfl rfl rfl (fq rfl rfl rfl (by omega)) ?_
  refine gw ?_
  try dsimp only [St.put]
  refine i1 rfl rfl rfl (dp rfl rfl rfl (by decide) (by decide) zR (by decide) ⟨zD, ?_⟩)
  try dsimp only [St.put]
  refine gr rfl rfl rfl rfl (jr ([(ei p.text x : Int) - ((dh p.text x).length : Int)]) rfl rfl zG zE rfl rfl zA ?_ zA)
  refine dd rfl rfl rfl rfl (em rfl rfl) ?_
  try dsimp only [St.put]
  refine gr rfl rfl rfl rfl (kd rfl rfl rfl zG (by constructor) rfl zO ?_)
  refine gl ?_
  dsimp only [St.put]
  have e := sl j (cy p)
  rw [show cy p j = (ei p.text x : Int) - ((dh p.text x).length : Int) from o6 hx _] at e
  simp only [← e]
  refine K11 _ ?_
  refine yS fun _ K12 => ?_
  refine yR ?_
  refine yA rfl rfl ?_
  refine yN ?_
  dsimp only [St.put]
  refine K12 _ ?_
  refine nh 8 3 1 rfl (by decide) ?_
  dsimp only [List.set_cons_zero, List.set_cons_succ]
  refine yS fun _ K13 => ?_
  refine yR ?_
  refine yA rfl rfl ?_
  refine yN ?_
  dsimp only [St.put]
  refine K13 _ ?_
  refine yS fun _ K14 => ?_
  refine yS fun _ K15 => ?_
  refine yR ?_
  try dsimp only [St.put]
  refine bw rfl (mu (n := 6) (m := n) rfl rfl zG rfl) ?_
  refine yM rfl rfl ?_
  refine yN ?_
  dsimp only [St.put]
  refine K15 _ ?_
  refine az ?_
  refine cb 56 ?_
  refine zQ ?_
  refine ct (ak ((ak (ak (ak (ak (ak G nx (.box 0 [.list [] .nil, .list [] .nil, .list [] .nil])) (nx + 1) (.box ((bx p + 2 * j + 1)) [.list ((bh (bx p) (cm p)).map cells) (.tip (nx + 1 + 1)), .list ((bh (j + 1) (cy p)).map cells) (.tip (nx + 1 + 1 + 1)), .list (((p.pages.take j).map (di p)).map cells) (.tip (nx + 1 + 1 + 1 + 1))])) (nx + 1 + 1) (.tip (bh (bx p) (cm p)).length 3 1)) (nx + 1 + 1 + 1) (.tip (bh (j + 1) (cy p)).length 3 1)) (nx + 1 + 1 + 1 + 1) (.tip ((p.pages.take j).map (di p)).length 40 1))) (nx + 1 + 1 + 1 + 1 + 1 + 1) (.tip 0 3 1)) zX ?_
  dsimp only
  refine cr (X := Nat) (fun k => k ≤ 2) (fun k => 2 - k) (fun k => [(8, .list ((o4 p x k).map cells) (.tip (nx + 1 + 1 + 1 + 1 + 1 + 1))), (9, .v (.int .i64 (sdN p k : Int))), (11, .any), (12, .any), (55, .v (.int .i64 (k : Int)))]) (fun k G' => ak ((ak (ak (ak (ak (ak G nx (.box 0 [.list [] .nil, .list [] .nil, .list [] .nil])) (nx + 1) (.box ((bx p + 2 * j + 1)) [.list ((bh (bx p) (cm p)).map cells) (.tip (nx + 1 + 1)), .list ((bh (j + 1) (cy p)).map cells) (.tip (nx + 1 + 1 + 1)), .list (((p.pages.take j).map (di p)).map cells) (.tip (nx + 1 + 1 + 1 + 1))])) (nx + 1 + 1) (.tip (bh (bx p) (cm p)).length 3 1)) (nx + 1 + 1 + 1) (.tip (bh (j + 1) (cy p)).length 3 1)) (nx + 1 + 1 + 1 + 1) (.tip ((p.pages.take j).map (di p)).length 40 1))) (nx + 1 + 1 + 1 + 1 + 1 + 1) (.tip (o4 p x k).length 3 1)) 0 rfl ?_ ?_ ?_ ?_ ?_ ?_
  ·exact Nat.zero_le _
  ·exact zF
  ·exact zX
  ·rintro k hI
   exact zL
  ·rintro k hI
   exact zH
  rintro k hK
  dsimp only at hK ⊢
  refine yS fun _ K16 => ?_
  refine yR ?_
  refine aa rfl (ca rfl rfl rfl) ?_
  refine yN ?_
  dsimp only [St.put]
  refine K16 _ ?_
  refine yS fun _ K17 => ?_
  refine am rfl (fun hc => ?_) (fun hc => ?_)
  ·replace hc := of_decide_eq_true hc
   have hk : k < 2 := by omega
   have hsd : sdN p k ≤ 3 ∧ (dj p (decide (k = 1))).length ≤ 3 ∧ -1 ≤ dv (decide (k = 1)) x ∧ dv (decide (k = 1)) x ≤ 3 := by
    have : k = 0 ∨ k = 1 := by omega
    rcases this with rfl | rfl
    ·exact ⟨Nat.zero_le _, hn1, by show -1 ≤ x.fst; omega, by show x.fst ≤ 3; omega⟩
    exact ⟨hn1, hn2, by show -1 ≤ x.snd; omega, by show x.snd ≤ 3; omega⟩
   have hst : o4 p x (k + 1) = o4 p x k ++ bif decide (0 ≤ dv (decide (k = 1)) x) then [(sdN p k : Int) + dv (decide (k = 1)) x] else [] := rfl
   have hrl := uby p x k
   refine av ?_
   refine K17 _ ?_
   refine yS fun _ K18 => ?_
   refine az ?_
   refine yS fun _ K19 => ?_
   refine yR ?_
   refine aa rfl (vz (k := k) (m := 2) (sz := 3) rfl rfl rfl rfl hk (vf hk)) ?_
   try dsimp only [St.put]
   refine ae rfl (dx rfl ?_)
   try dsimp only [St.put]
   refine ae rfl (c6 rfl rfl rfl zG rfl rfl (by rfl) ?_)
   refine yN ?_
   dsimp only [St.put]
   refine K19 _ ?_
   refine gg (i := 11) rfl zG zC ?_
   dsimp only
   refine yS fun _ K20 => ?_
   refine yS fun _ K21 => ?_
   refine yR ?_
   refine yF rfl rfl rfl rfl ?_
   refine yL rfl rfl rfl ?_
   refine yE rfl rfl rfl ?_
   try dsimp only [St.put]
   refine ae rfl (ay rfl rfl rfl (ya (decide (k = 1)) x) ?_)
   refine yA rfl rfl ?_
   refine yN ?_
   dsimp only [St.put]
   refine K21 _ ?_
   refine yS fun _ K22 => ?_
   refine yR ?_
   refine yM rfl rfl ?_
   refine aa rfl (m4 rfl rfl rfl) ?_
   refine yN ?_
   dsimp only [St.put]
   refine K22 _ ?_
   refine am rfl (fun hc => ?_) (fun hc => ?_)
   ·have hyes : 0 ≤ dv (decide (k = 1)) x := of_decide_eq_true hc
    refine yR ?_
    refine yM rfl rfl ?_
    refine yM rfl rfl ?_
    refine yM rfl rfl ?_
    refine aa rfl (bl rfl rfl rfl (by omega)) ?_
    try dsimp only [St.put]
    refine ae rfl (dp rfl rfl rfl (by decide) (by decide) zR (by decide) ?_)
    try dsimp only [St.put]
    refine ae rfl (jr ([(sdN p k : Int) + dv (decide (k = 1)) x]) rfl rfl zG zE rfl rfl zA ?_ zA)
    refine yA rfl rfl ?_
    refine yN ?_
    dsimp only [St.put]
    refine K20 _ ?_
    refine fk [(0, none), (1, none), (2, none), (3, none), (4, none), (5, none), (6, none), (7, none), (8, none), (9, none), (10, none)] (fun i => [7].contains i) (fun i => [7].contains i) (fun i => [0, 1, 3, 4, 5, 8, 9, 10].contains i) [] (by kernel_rfl) (by kernel_rfl) ?_
    refine xM rfl rfl rfl rfl rfl ?_
    refine ah rfl rfl rfl rfl (ce rfl rfl rfl) ?_
    try dsimp only [St.put]
    refine ax rfl rfl rfl rfl (bv rfl rfl) ?_
    refine xM rfl rfl rfl rfl rfl ?_
    refine ah rfl rfl rfl rfl (ku rfl rfl) ?_
    refine ah rfl rfl rfl rfl (ce rfl rfl rfl) ?_
    try dsimp only [St.put]
    refine ax rfl rfl rfl rfl (c := val p) (i4 (cs := j5 p) rfl rfl (show 4 ≤ 7 by decide)) ?_
    refine gw ?_
    try dsimp only [St.put]
    refine gr rfl rfl rfl rfl (ay rfl rfl rfl (oz (decide (k = 1)) p) ?_)
    refine dd rfl rfl rfl rfl (bd rfl rfl (List.length_map _)) ?_
    refine dd rfl rfl rfl rfl (bl rfl rfl rfl (by omega)) ?_
    refine dd rfl rfl rfl rfl (et rfl (by constructor)) ?_
    refine gl ?_
    dsimp only [St.put]
    refine K18 _ ?_
    refine yR ?_
    refine aa rfl (bl rfl rfl rfl (by omega)) ?_
    refine yM rfl rfl ?_
    refine yN ?_
    dsimp only [St.put]
    rw [show ((sdN p k : Nat) : Int) + ((dj p (decide (k = 1))).length : Int) = ((sdN p (k + 1) : Nat) : Int) by rw [x9 hk]; omega]
    first
    | (have z : 0 ≤ dv (decide (k = 1)) x := hyes
       rw [decide_eq_true z, cond_true] at hst
       rw [← hst]
       exact ⟨k + 1, by omega, by omega, ⟨⟨rfl, rfl⟩, zF, zB, zN, zX⟩⟩)
    | (have z : ¬ 0 ≤ dv (decide (k = 1)) x := hno
       rw [decide_eq_false z, cond_false, List.append_nil] at hst
       rw [← hst]
       exact ⟨k + 1, by omega, by omega, ⟨⟨rfl, rfl⟩, zF, zB, zN, zX⟩⟩)
   have hno : ¬ 0 ≤ dv (decide (k = 1)) x := of_decide_eq_false hc
   refine av ?_
   refine K20 _ ?_
   refine fk [(0, none), (1, none), (2, none), (3, none), (4, none), (5, none), (6, none), (7, none), (8, none), (9, none), (10, none)] (fun i => [7].contains i) (fun i => [7].contains i) (fun i => [0, 1, 3, 4, 5, 8, 9, 10].contains i) [] (by kernel_rfl) (by kernel_rfl) ?_
   refine xM rfl rfl rfl rfl rfl ?_
   refine ah rfl rfl rfl rfl (ce rfl rfl rfl) ?_
   try dsimp only [St.put]
   refine ax rfl rfl rfl rfl (bv rfl rfl) ?_
   refine xM rfl rfl rfl rfl rfl ?_
   refine ah rfl rfl rfl rfl (ku rfl rfl) ?_
   refine ah rfl rfl rfl rfl (ce rfl rfl rfl) ?_
   try dsimp only [St.put]
   refine ax rfl rfl rfl rfl (c := val p) (i4 (cs := j5 p) rfl rfl (show 4 ≤ 7 by decide)) ?_
   refine gw ?_
   try dsimp only [St.put]
   refine gr rfl rfl rfl rfl (ay rfl rfl rfl (oz (decide (k = 1)) p) ?_)
   refine dd rfl rfl rfl rfl (bd rfl rfl (List.length_map _)) ?_
   refine dd rfl rfl rfl rfl (bl rfl rfl rfl (by omega)) ?_
   refine dd rfl rfl rfl rfl (et rfl (by constructor)) ?_
   refine gl ?_
   dsimp only [St.put]
   refine K18 _ ?_
   refine yR ?_
   refine aa rfl (bl rfl rfl rfl (by omega)) ?_
   refine yM rfl rfl ?_
   refine yN ?_
   dsimp only [St.put]
   rw [show ((sdN p k : Nat) : Int) + ((dj p (decide (k = 1))).length : Int) = ((sdN p (k + 1) : Nat) : Int) by rw [x9 hk]; omega]
   first
   | (have z : 0 ≤ dv (decide (k = 1)) x := hyes
      rw [decide_eq_true z, cond_true] at hst
      rw [← hst]
      exact ⟨k + 1, by omega, by omega, ⟨⟨rfl, rfl⟩, zF, zB, zN, zX⟩⟩)
   | (have z : ¬ 0 ≤ dv (decide (k = 1)) x := hno
      rw [decide_eq_false z, cond_false, List.append_nil] at hst
      rw [← hst]
      exact ⟨k + 1, by omega, by omega, ⟨⟨rfl, rfl⟩, zF, zB, zN, zX⟩⟩)
  replace hc := of_decide_eq_false hc
  obtain rfl : k = 2 := by omega
  rw [ujn]
  refine xd 8 (lst (di p x)) rfl Wk.tok ?_
  refine cn ?_
  refine K14 _ ?_
  refine yR ?_
  refine aa rfl (em rfl rfl) ?_
  try dsimp only [St.put]
  refine bw rfl (f7 rfl rfl zG trivial (by first | rfl | assumption)) ?_
  refine yM rfl rfl ?_
  try dsimp only [St.put]
  refine ae rfl (dp rfl rfl rfl (by decide) (by decide) zR (by decide) ?_)
  try dsimp only [St.put]
  refine ae rfl (jr ([di p x]) rfl rfl zG zE rfl rfl zA ?_ zA)
  refine aa rfl (em rfl rfl) ?_
  try dsimp only [St.put]
  refine ae rfl (kd rfl rfl rfl zG (by constructor) rfl zO ?_)
  refine yN ?_
  dsimp only [St.put]
  refine K9 _ ?_
  refine yR ?_
  refine aa rfl (bl rfl rfl rfl (by omega)) ?_
  refine yM rfl rfl ?_
  refine yN ?_
  dsimp only [St.put]
  have e2 := ulm (di p) hx
  simp only [← e2]
  exact ⟨j + 1, by omega, by omega, ⟨⟨rfl, rfl⟩, zF, zB, zN, zX⟩⟩
 replace hc := of_decide_eq_false hc
 obtain rfl : j = p.pages.length := by omega
 rw [List.take_length]
 refine uag (nx + 1) (bx p + 2 * p.pages.length) (cells (f8 p (cm p) (cy p))) zG zW ?_
 refine cn ?_
 refine K5 _ ?_
 refine yS fun _ K23 => ?_
 refine fk [(0, none), (1, none), (2, none), (3, none), (4, none), (5, none), (6, none)] (fun i => [5].contains i) (fun i => [3, 5].contains i) (fun i => [1, 4, 6].contains i) [nx + 1] (by kernel_rfl) (by kernel_rfl) ?_
 try dsimp only [St.put]
 refine ax rfl rfl rfl rfl (iy rfl rfl zG (by simp) (by rfl)) ?_
 refine ah rfl rfl rfl rfl (em rfl rfl) ?_
 try dsimp only [St.put]
 refine ax rfl rfl rfl rfl (f7 rfl rfl zG (by simp) (by first | rfl | assumption)) ?_
 refine gw ?_
 try dsimp only [St.put]
 refine i1 rfl rfl rfl (ay rfl rfl rfl (xi (bh (bx p) (cm p)) (fun z => decide (z < 0)) _ _ fun z _ => ui9 z) ⟨zD, ?_⟩)
 refine dd rfl rfl rfl rfl (dl rfl rfl) ?_
 try dsimp only [St.put]
 refine gr rfl rfl rfl rfl (c6 rfl rfl rfl zG rfl rfl (by rfl) ?_)
 refine dd rfl rfl rfl rfl (et rfl (by constructor)) ?_
 refine gl ?_
 dsimp only [St.put]
 refine K23 _ ?_
 refine ar ?_
 refine gz rfl (ju rfl zG (by rfl) zC rfl) (d7 (by constructor)) zN zS ?_ ?_
 ·exact zW
 rw [ul2]; exact zW
theorem uja (m : Nat) (e : Int) (p : af) : C.low m (bif decide (e = 0) then val (f8 p (cm p) (cy p)) else .agg [.list [] .nil, .list [] .nil, .list [] .nil]) := by
 cases decide (e = 0)
 ·exact .agg (bz e8 (bz e8 (bz e8 c5)))
 exact eb _ _
theorem ucd (n : Nat) (p : af) (c : C) (e : Int) (h : e = 0 → dz p ∧ c = .elem (j5 p)) : ez n er Tryz.prog 41 [c, .v (.int .i64 e)] (.tup [bif decide (fa p e = 0) then val (f8 p (cm p) (cy p)) else .agg [.list [] .nil, .list [] .nil, .list [] .nil], .v (.int .i64 (fa p e))]) := fun G nx hF hnx => by
 refine ib (G) (nx) Tryz.func41 rfl (.tup (bz (uja _ _ _) (bz .v c5))) zN (fun hlt => zH) ?_
 simp only [Tryz.ntmps41, List.length_cons, List.length_nil, Nat.reduceAdd, Nat.reduceSub]
 refine bq fun hlt => ?_
 dsimp only at hlt
 refine yS fun _ K1 => ?_
 refine yR ?_
 try dsimp only [St.put]
 refine ae rfl (dx rfl ?_)
 refine yA rfl rfl ?_
 refine yN ?_
 dsimp only [St.put]
 refine K1 _ ?_
 refine yS fun _ K2 => ?_
 refine yS fun _ K3 => ?_
 refine yR ?_
 refine yM rfl rfl ?_
 refine aa rfl (fb rfl rfl rfl) ?_
 refine yN ?_
 dsimp only [St.put]
 refine K3 _ ?_
 refine am rfl (fun hc => ?_) (fun hc => ?_)
 ·have h0 : e ≠ 0 := jj hc
  have hE : fa p e = e := udp h0
  refine yS fun _ K4 => ?_
  refine yR ?_
  refine aa rfl (g7 rfl rfl) ?_
  refine yM rfl rfl ?_
  try dsimp only [St.put]
  refine ae rfl (c6 rfl rfl rfl zG rfl rfl (by rfl) ?_)
  refine yA rfl rfl ?_
  refine yN ?_
  dsimp only [St.put]
  refine K4 _ ?_
  refine ar ?_
  refine gz rfl (ju rfl zG (by rfl) zC rfl) (d7 (by constructor)) zN zS ?_ ?_
  ·rw [hE, decide_eq_false h0]; exact zW
  rw [hE]; exact zW
 have h0 : e = 0 := g6 hc
 obtain ⟨hok, rfl⟩ := h h0
 subst h0
 refine av ?_
 refine K2 _ ?_
 refine yS fun _ K5 => ?_
 refine yR ?_
 refine yM rfl rfl ?_
 try dsimp only [St.put]
 refine ae rfl (d9 rfl rfl rfl (ukd n p hok) zG (by dsimp only [St.put]; omega) ?_)
 refine yM rfl rfl ?_
 refine yX rfl rfl rfl rfl ?_
 refine yX rfl rfl rfl rfl ?_
 try dsimp only [St.put]
 refine ae rfl (dx rfl ?_)
 try dsimp only [St.put]
 refine ae rfl (c6 rfl rfl rfl zG rfl rfl (by rfl) ?_)
 refine yA rfl rfl ?_
 refine yN ?_
 dsimp only [St.put]
 refine K5 _ ?_
 refine yS fun _ K6 => ?_
 refine yS fun _ K7 => ?_
 refine yR ?_
 refine yM rfl rfl ?_
 refine aa rfl (dl rfl rfl) ?_
 refine yN ?_
 dsimp only [St.put]
 refine K7 _ ?_
 refine am rfl (fun hc => ?_) (fun hc => ?_)
 ·have hTB : g4 p = false := by simpa using hc
  have hE : fa p 0 = 8 := by rw [rh, hTB]; rfl
  refine yS fun _ K8 => ?_
  refine yR ?_
  refine aa rfl (g7 rfl rfl) ?_
  try dsimp only [St.put]
  refine ae rfl (c6 rfl rfl rfl zG rfl rfl (by rfl) ?_)
  refine yA rfl rfl ?_
  refine yN ?_
  dsimp only [St.put]
  refine K8 _ ?_
  refine ar ?_
  refine gz rfl (ju rfl zG (by rfl) zC rfl) (d7 (by constructor)) zN zS ?_ ?_
  ·rw [hE]; exact zW
  rw [hE]; exact zW
 have hTB : g4 p = true := by simpa using hc
 have hE : fa p 0 = 0 := by rw [rh, hTB]; rfl
 refine av ?_
 refine K6 _ ?_
 refine yS fun _ K9 => ?_
 refine yR ?_
 try dsimp only [St.put]
 refine bw rfl (iy rfl rfl zG trivial (by rfl)) ?_
 try dsimp only [St.put]
 refine ae rfl (c6 rfl rfl rfl zG rfl rfl (by rfl) ?_)
 refine yA rfl rfl ?_
 refine yN ?_
 dsimp only [St.put]
 refine K9 _ ?_
 refine ar ?_
 refine gz rfl (ju rfl zG (by rfl) zC rfl) (d7 (by constructor)) zN zS ?_ ?_
 ·rw [hE]; exact zW
 rw [hE]; exact zW
end Go.Proofs.YtbbdginipiljdaaGreatDoor
namespace Go.AB
open Go Go.RowKit
open Go.AB.Enc (cells)
open Go.PB (aw ai PlaceD bc bg bf bp aq af ci bn cx cz)
/-- what may remain ahead of a page, by the worst truth -/
noncomputable def rmR (p : af) (i : Nat) : Nat → Int := ((bk p).room (cm p) (cy p) i).1
noncomputable def rmC (p : af) (i : Nat) : Nat → Int := ((bk p).room (cm p) (cy p) i).2
theorem ui7 (p : af) (i : Nat) : rmR p (i + 1) = (bk p).lessR (rmR p i) i (fl p i) := rfl
theorem ui8 (p : af) (i : Nat) : rmC p (i + 1) = dq (rmC p i) i := rfl
theorem uar {p : af} (h : dz p) (ht : g4 p = true) {i : Nat} (hi : i < p.pages.length) : (bk p).Pick (rmR p i) (rmC p i) i ((bk p).pick (rmR p i) (rmC p i) i) :=
 Net.worst_pick (qz h) (qp ht) (fun j _ => qf h j) hi
theorem uas (p : af) (i : Nat) : fl p i = (bk p).pick (rmR p i) (rmC p i) i := rfl
theorem ubu {p : af} (h : dz p) (ht : g4 p = true) : ∀ {i : Nat}, i ≤ p.pages.length → Bd p (rmR p i) (rmC p i)
 | 0, _ => uj h
 | i + 1, hi => by
  have hp := uar h ht (i := i) (by omega)
  rw [ui7, ui8, uas]
  exact uaf (ubu h ht (by omega)) hp.nn hp.le
theorem uon {p : af} {R C : Nat → Int} (hB : Bd p R C) (j : Nat) : (bk p).alone R C j ≤ 1000000 := Int.le_trans (Net.le_alone.1 (Int.le_refl _)).1 (hB.c j).2
end Go.AB
namespace Go.Proofs.YtbbdginipiljdaaGreatDoor
set_option maxRecDepth 10000
open Go.RowKit Go.AB
open Go.AB.Enc (cells)
open Go.PB (aw ai PlaceD bc bg bf bp aq af ci bn cx cz)
end Go.Proofs.YtbbdginipiljdaaGreatDoor
namespace Go.AB
open Go Go.RowKit
open Go.AB.Enc (cells)
open Go.PB (aw ai PlaceD bc bg bf bp aq af ci bn cx cz)
theorem ri {p : af} {e : Int} (h : fa p e = 0) : e = 0 ∧ g4 p = true := by
 by_cases h0 : e = 0
 ·subst h0
  rw [rh] at h
  cases ht : g4 p
  ·rw [ht] at h; cases h
  exact ⟨rfl, rfl⟩
 rw [udp h0] at h; exact absurd h h0
end Go.AB
namespace Go.Proofs.YtbbdginipiljdaaGreatDoor
set_option maxRecDepth 10000
open Go Go.RowKit Go.AB
open Go.AB.Enc (cells)
open Go.PB (aw ai PlaceD bc bg bf bp aq af ci bn cx cz)
theorem uft {p : af} {n : Int} (h : ec p n = 0) : dz p ∧ pgC p n = .elem (j5 p) := ⟨(lx (qi h).1).1, sy h⟩
theorem pk {p : af} (h : cj p = 0) : dz p ∧ ji p = .elem (j5 p) := ⟨(lx h).1, vt h⟩
theorem s9 (n : Nat) (p : af) (c : C) (e : Int) (h : e = 0 → dz p ∧ c = .elem (j5 p)) (hE : fa p e = 0) : ez n er Tryz.prog 41 [c, .v (.int .i64 e)] (.tup [val (f8 p (cm p) (cy p)), .v (.int .i64 0)]) := by
 have := ucd n p c e h
 rwa [hE, decide_eq_true rfl, cond_true] at this
theorem ta (n : Nat) (p : af) (c : C) (e : Int) (h : e = 0 → dz p ∧ c = .elem (j5 p)) (hE : fa p e ≠ 0) : ez n er Tryz.prog 41 [c, .v (.int .i64 e)] (.tup [.agg [.list [] .nil, .list [] .nil, .list [] .nil], .v (.int .i64 (fa p e))]) := by
 have := ucd n p c e h
 rwa [decide_eq_false hE, cond_false] at this
theorem uce (n : Nat) (p : af) (m : Int) : ez n er Tryz.prog 11 [val p, .v (.int .i64 m)] (.tup [val (n1 p m), .v (.int .i64 (fa p (ec p m)))]) := fun G nx hF hnx => by
 refine ib (G) (nx) Tryz.func11 rfl (.tup (bz (eb _ _) (bz .v c5))) zN (fun hlt => zH) ?_
 simp only [Tryz.ntmps11, List.length_cons, List.length_nil, Nat.reduceAdd, Nat.reduceSub]
 refine bq fun hlt => ?_
 dsimp only at hlt
 refine yS fun _ K1 => ?_
 refine yR ?_
 try dsimp only [St.put]
 refine yB rfl rfl rfl ?_
 try dsimp only [St.put]
 refine ae rfl (dx rfl ?_)
 refine yA rfl rfl ?_
 refine yN ?_
 dsimp only [St.put]
 refine K1 _ ?_
 refine yS fun _ K2 => ?_
 by_cases hL : fa p (ec p m) = 0
 ·refine yR ?_
  refine yE rfl rfl rfl ?_
  refine yM rfl rfl ?_
  try dsimp only [St.put]
  refine ae rfl (d9 rfl rfl rfl (qw n p m) zG (by dsimp only [St.put]; omega) ?_)
  refine yX rfl rfl rfl rfl ?_
  refine yX rfl rfl rfl rfl ?_
  try dsimp only [St.put]
  refine ae rfl (d9 rfl rfl rfl (s9 n p (pgC p m) (ec p m) uft hL) zG (by dsimp only [St.put]; omega) ?_)
  refine yM rfl rfl ?_
  refine yX rfl rfl rfl rfl ?_
  refine yX rfl rfl rfl rfl ?_
  try dsimp only [St.put]
  refine ae rfl (dx rfl ?_)
  try dsimp only [St.put]
  refine ae rfl (c6 rfl rfl rfl zG rfl rfl (by rfl) ?_)
  refine yA rfl rfl ?_
  refine yN ?_
  dsimp only [St.put]
  refine K2 _ ?_
  refine yS fun _ K3 => ?_
  refine yS fun _ K4 => ?_
  refine yR ?_
  refine yM rfl rfl ?_
  refine aa rfl (fb rfl rfl rfl) ?_
  refine yN ?_
  dsimp only [St.put]
  refine K4 _ ?_
  refine am rfl (fun hc => ?_) (fun hc => ?_)
  ·exact absurd hc (by decide)
  obtain ⟨h0, hTB⟩ := ri hL
  obtain ⟨hc0, j, x, rfl, hx, hpo⟩ := qi h0
  obtain ⟨hok, _⟩ := lx hc0
  have hV : n1 p (j : Int) = ⟨0, (bk p).alone (cm p) (cy p) j⟩ := by unfold n1; rw [hL, po, Int.toNat_natCast]
  refine av ?_
  refine K3 _ ?_
  refine yS fun _ K5 => ?_
  refine yR ?_
  try dsimp only [St.put]
  refine bw rfl (iy rfl rfl zG trivial (by rfl)) ?_
  refine yM rfl rfl ?_
  try dsimp only [St.put]
  refine ae rfl (ay rfl rfl rfl (ucg p (cm p) (cy p) j x hok hx) ?_)
  refine aa rfl (g7 rfl rfl) ?_
  try dsimp only [St.put]
  refine ae rfl (c6 rfl rfl rfl zG rfl rfl (by rfl) ?_)
  refine yA rfl rfl ?_
  refine yN ?_
  dsimp only [St.put]
  refine K5 _ ?_
  refine ar ?_
  refine gz rfl (ju rfl zG (by rfl) zC rfl) (d7 (by constructor)) zN zS ?_ ?_
  ·rw [hV]; exact zW
  rw [hL]; exact zW
 refine yR ?_
 refine yE rfl rfl rfl ?_
 refine yM rfl rfl ?_
 try dsimp only [St.put]
 refine ae rfl (d9 rfl rfl rfl (qw n p m) zG (by dsimp only [St.put]; omega) ?_)
 refine yX rfl rfl rfl rfl ?_
 refine yX rfl rfl rfl rfl ?_
 try dsimp only [St.put]
 refine ae rfl (d9 rfl rfl rfl (ta n p (pgC p m) (ec p m) uft hL) zG (by dsimp only [St.put]; omega) ?_)
 refine yM rfl rfl ?_
 refine yX rfl rfl rfl rfl ?_
 refine yX rfl rfl rfl rfl ?_
 try dsimp only [St.put]
 refine ae rfl (dx rfl ?_)
 try dsimp only [St.put]
 refine ae rfl (c6 rfl rfl rfl zG rfl rfl (by rfl) ?_)
 refine yA rfl rfl ?_
 refine yN ?_
 dsimp only [St.put]
 refine K2 _ ?_
 refine yS fun _ K6 => ?_
 refine yS fun _ K7 => ?_
 refine yR ?_
 refine yM rfl rfl ?_
 refine aa rfl (fb rfl rfl rfl) ?_
 refine yN ?_
 dsimp only [St.put]
 refine K7 _ ?_
 refine am rfl (fun hc => ?_) (fun hc => ?_)
 ·have hV : n1 p m = ⟨0, 0⟩ := by unfold n1; rw [lg hL]
  refine yS fun _ K8 => ?_
  refine yR ?_
  refine aa rfl (g7 rfl rfl) ?_
  refine yM rfl rfl ?_
  try dsimp only [St.put]
  refine ae rfl (c6 rfl rfl rfl zG rfl rfl (by rfl) ?_)
  refine yA rfl rfl ?_
  refine yN ?_
  dsimp only [St.put]
  refine K8 _ ?_
  refine ar ?_
  refine gz rfl (ju rfl zG (by rfl) zC rfl) (d7 (by constructor)) zN zS ?_ ?_
  ·rw [hV]; exact zW
  exact zW
 exact absurd (g6 hc) hL
theorem uka (n : Nat) (p : af) : ez n er Tryz.prog 13 [val p] (.tup [val (qq p), .v (.int .i64 (fa p (cj p)))]) := fun G nx hF hnx => by
 refine ib (G) (nx) Tryz.func13 rfl (.tup (bz (eb _ _) (bz .v c5))) zN (fun hlt => zH) ?_
 simp only [Tryz.ntmps13, List.length_cons, List.length_nil, Nat.reduceAdd, Nat.reduceSub]
 refine bq fun hlt => ?_
 dsimp only at hlt
 refine yS fun _ K1 => ?_
 refine yR ?_
 try dsimp only [St.put]
 refine yB rfl rfl rfl ?_
 try dsimp only [St.put]
 refine ae rfl (dx rfl ?_)
 refine yA rfl rfl ?_
 refine yN ?_
 dsimp only [St.put]
 refine K1 _ ?_
 refine yS fun _ K2 => ?_
 by_cases hL : fa p (cj p) = 0
 ·refine yR ?_
  refine yE rfl rfl rfl ?_
  try dsimp only [St.put]
  refine ae rfl (d9 rfl rfl rfl (n2 n p) zG (by dsimp only [St.put]; omega) ?_)
  refine yX rfl rfl rfl rfl ?_
  refine yX rfl rfl rfl rfl ?_
  try dsimp only [St.put]
  refine ae rfl (d9 rfl rfl rfl (s9 n p (ji p) (cj p) pk hL) zG (by dsimp only [St.put]; omega) ?_)
  refine yM rfl rfl ?_
  refine yX rfl rfl rfl rfl ?_
  refine yX rfl rfl rfl rfl ?_
  try dsimp only [St.put]
  refine ae rfl (dx rfl ?_)
  try dsimp only [St.put]
  refine ae rfl (c6 rfl rfl rfl zG rfl rfl (by rfl) ?_)
  refine yA rfl rfl ?_
  refine yN ?_
  dsimp only [St.put]
  refine K2 _ ?_
  refine yS fun _ K3 => ?_
  refine yS fun _ K4 => ?_
  refine yR ?_
  refine yM rfl rfl ?_
  refine aa rfl (fb rfl rfl rfl) ?_
  refine yN ?_
  dsimp only [St.put]
  refine K4 _ ?_
  refine am rfl (fun hc => ?_) (fun hc => ?_)
  ·exact absurd hc (by decide)
  obtain ⟨h0, hTB⟩ := ri hL
  obtain ⟨hok, _⟩ := lx h0
  have hV : qq p = ⟨0, (bk p).most (cm p) (cy p)⟩ := by unfold qq; rw [hL, po]; rfl
  refine av ?_
  refine K3 _ ?_
  refine yS fun _ K5 => ?_
  refine yR ?_
  try dsimp only [St.put]
  refine bw rfl (iy rfl rfl zG trivial (by rfl)) ?_
  try dsimp only [St.put]
  refine ae rfl (ay rfl rfl rfl (td p (cm p) (cy p) hok (uj hok)) ?_)
  refine aa rfl (g7 rfl rfl) ?_
  try dsimp only [St.put]
  refine ae rfl (c6 rfl rfl rfl zG rfl rfl (by rfl) ?_)
  refine yA rfl rfl ?_
  refine yN ?_
  dsimp only [St.put]
  refine K5 _ ?_
  refine ar ?_
  refine gz rfl (ju rfl zG (by rfl) zC rfl) (d7 (by constructor)) zN zS ?_ ?_
  ·rw [hV]; exact zW
  rw [hL]; exact zW
 refine yR ?_
 refine yE rfl rfl rfl ?_
 try dsimp only [St.put]
 refine ae rfl (d9 rfl rfl rfl (n2 n p) zG (by dsimp only [St.put]; omega) ?_)
 refine yX rfl rfl rfl rfl ?_
 refine yX rfl rfl rfl rfl ?_
 try dsimp only [St.put]
 refine ae rfl (d9 rfl rfl rfl (ta n p (ji p) (cj p) pk hL) zG (by dsimp only [St.put]; omega) ?_)
 refine yM rfl rfl ?_
 refine yX rfl rfl rfl rfl ?_
 refine yX rfl rfl rfl rfl ?_
 try dsimp only [St.put]
 refine ae rfl (dx rfl ?_)
 try dsimp only [St.put]
 refine ae rfl (c6 rfl rfl rfl zG rfl rfl (by rfl) ?_)
 refine yA rfl rfl ?_
 refine yN ?_
 dsimp only [St.put]
 refine K2 _ ?_
 refine yS fun _ K6 => ?_
 refine yS fun _ K7 => ?_
 refine yR ?_
 refine yM rfl rfl ?_
 refine aa rfl (fb rfl rfl rfl) ?_
 refine yN ?_
 dsimp only [St.put]
 refine K7 _ ?_
 refine am rfl (fun hc => ?_) (fun hc => ?_)
 ·have hV : qq p = ⟨0, 0⟩ := by unfold qq; rw [lg hL]
  refine yS fun _ K8 => ?_
  refine yR ?_
  refine aa rfl (g7 rfl rfl) ?_
  refine yM rfl rfl ?_
  try dsimp only [St.put]
  refine ae rfl (c6 rfl rfl rfl zG rfl rfl (by rfl) ?_)
  refine yA rfl rfl ?_
  refine yN ?_
  dsimp only [St.put]
  refine K8 _ ?_
  refine ar ?_
  refine gz rfl (ju rfl zG (by rfl) zC rfl) (d7 (by constructor)) zN zS ?_ ?_
  ·rw [hV]; exact zW
  exact zW
 exact absurd (g6 hc) hL
set_option maxHeartbeats 1000000 in
theorem yk (n0 : Nat) (p : af) : ez n0 er Tryz.prog 15 [val p] (.tup [lst (nk p), .v (.int .i64 (fa p (cj p)))]) := fun G nx hF hnx => by
 refine ib (G) (nx) Tryz.func15 rfl (.tup (bz (br _ _) (bz .v c5))) zN (fun hlt => zH) ?_
 simp only [Tryz.ntmps15, List.length_cons, List.length_nil, Nat.reduceAdd, Nat.reduceSub]
 refine bq fun hlt => ?_
 dsimp only at hlt
 refine yS fun _ K1 => ?_
 refine yR ?_
 try dsimp only [St.put]
 refine yB rfl rfl rfl ?_
 refine yA rfl rfl ?_
 refine yA rfl rfl ?_
 refine yN ?_
 dsimp only [St.put]
 refine K1 _ ?_
 refine yS fun _ K2 => ?_
 by_cases hL : fa p (cj p) = 0
 ·refine yR ?_
  refine yE rfl rfl rfl ?_
  try dsimp only [St.put]
  refine ae rfl (d9 rfl rfl rfl (n2 n0 p) zG (by dsimp only [St.put]; omega) ?_)
  refine yX rfl rfl rfl rfl ?_
  refine yX rfl rfl rfl rfl ?_
  try dsimp only [St.put]
  refine ae rfl (d9 rfl rfl rfl (s9 n0 p (ji p) (cj p) pk hL) zG (by dsimp only [St.put]; omega) ?_)
  refine yM rfl rfl ?_
  refine yX rfl rfl rfl rfl ?_
  refine yX rfl rfl rfl rfl ?_
  try dsimp only [St.put]
  refine ae rfl (dx rfl ?_)
  try dsimp only [St.put]
  refine ae rfl (c6 rfl rfl rfl zG rfl rfl (by rfl) ?_)
  refine yA rfl rfl ?_
  refine yN ?_
  dsimp only [St.put]
  refine K2 _ ?_
  refine yS fun _ K3 => ?_
  refine yS fun _ K4 => ?_
  refine yR ?_
  refine yM rfl rfl ?_
  refine aa rfl (fb rfl rfl rfl) ?_
  refine yN ?_
  dsimp only [St.put]
  refine K4 _ ?_
  refine am rfl (fun hc => ?_) (fun hc => ?_)
  ·exact absurd hc (by decide)
  obtain ⟨h0, hTB⟩ := ri hL
  obtain ⟨hok, _⟩ := lx h0
  have hnp := hok.np
  have hV : nk p = bh p.pages.length (fl p) := by unfold nk; rw [hL, po]
  refine av ?_
  refine K3 _ ?_
  refine yS fun _ K5 => ?_
  refine yR ?_
  refine yA rfl rfl ?_
  refine yN ?_
  dsimp only [St.put]
  refine K5 _ ?_
  refine nh 6 3 1 rfl (by decide) ?_
  dsimp only [List.set_cons_zero, List.set_cons_succ]
  refine yS fun _ K6 => ?_
  refine yS fun _ K7 => ?_
  refine yR ?_
  refine yF rfl rfl rfl rfl ?_
  refine yL rfl rfl rfl ?_
  refine aa rfl (bd rfl rfl (List.length_map _)) ?_
  refine yM rfl rfl ?_
  refine yN ?_
  dsimp only [St.put]
  refine K7 _ ?_
  refine az ?_
  refine cb 25 ?_
  refine zQ ?_
  refine ct ((ak (ak G nx (.box (0 + 1) (cells (f8 p (rmR p 0) (rmC p 0))))) (nx + 1) (.tip (bh 0 (fl p)).length 3 1))) zX ?_
  dsimp only
  refine cr (X := Nat) (fun i => i ≤ p.pages.length) (fun i => p.pages.length - i) (fun i => [(6, .list ((bh i (fl p)).map cells) (.tip (nx + 1))), (7, .any), (8, .any), (9, .any), (24, .v (.int .i64 (i : Int)))]) (fun i G' => (ak (ak G nx (.box (i + 1) (cells (f8 p (rmR p i) (rmC p i))))) (nx + 1) (.tip (bh i (fl p)).length 3 1))) 0 rfl ?_ ?_ ?_ ?_ ?_ ?_
  ·exact Nat.zero_le _
  ·exact zF
  ·exact zX
  ·rintro i hI
   exact zL
  ·rintro i hI
   exact zH
  rintro i hI
  dsimp only at hI ⊢
  refine yS fun _ K8 => ?_
  refine yR ?_
  refine aa rfl (ca rfl rfl rfl) ?_
  refine yN ?_
  dsimp only [St.put]
  refine K8 _ ?_
  refine yS fun _ K9 => ?_
  refine am rfl (fun hc => ?_) (fun hc => ?_)
  ·replace hc := of_decide_eq_true hc
   have hi : i < p.pages.length := by omega
   obtain ⟨x, hx⟩ : ∃ x, p.pages[i]? = some x := cw hi
   have hB := ubu hok hTB (Nat.le_of_lt hi)
   have hP := uar hok hTB hi
   have hab := uon hB i
   have hmb := uc5 hB
   have hln := gu i (fl p)
   have hPn := hP.nn
   refine av ?_
   refine K9 _ ?_
   refine yS fun _ K10 => ?_
   refine az ?_
   refine yS fun _ K11 => ?_
   refine yR ?_
   refine yM rfl rfl ?_
   refine yA rfl rfl ?_
   refine yN ?_
   dsimp only [St.put]
   refine K11 _ ?_
   refine yS fun _ K12 => ?_
   refine fk [(0, none), (2, none), (3, none), (1, none), (4, none), (5, none), (6, none)] (fun i => [4].contains i) (fun i => [1, 4].contains i) (fun i => [3, 5, 6].contains i) [nx] (by kernel_rfl) (by kernel_rfl) ?_
   try dsimp only [St.put]
   refine ax rfl rfl rfl rfl (iy rfl rfl zG (by simp) (by rfl)) ?_
   try dsimp only [St.put]
   refine ax rfl rfl rfl rfl (iy rfl rfl zG (by simp) (by rfl)) ?_
   refine xM rfl rfl rfl rfl rfl ?_
   refine gw ?_
   try dsimp only [St.put]
   refine i1 rfl rfl rfl (ay rfl rfl rfl (td p _ _ hok hB) ⟨zD, ?_⟩)
   try dsimp only [St.put]
   refine gr rfl rfl rfl rfl (ay rfl rfl rfl (ucg p (rmR p i) (rmC p i) i x hok hx) ?_)
   refine dd rfl rfl rfl rfl (et rfl (by constructor)) ?_
   refine dd rfl rfl rfl rfl (et rfl (by constructor)) ?_
   refine gl ?_
   dsimp only [St.put]
   refine K12 _ ?_
   refine yS fun _ K13 => ?_
   refine az ?_
   refine cb 25 ?_
   refine zQ ?_
   refine cr (X := Int) (fun n => FromTop p (rmR p i) (rmC p i) i n) (fun n => n.toNat) (fun n => [(9, .v (.int .i64 n))]) (fun n G' => G') ((bk p).alone (rmR p i) (rmC p i) i) rfl ?_ ?_ (fun _ _ h => h) ?_ ?_ ?_
   ·exact FromTop.start hP
   ·exact zF
   ·rintro n hI
    exact zL
   ·exact fun _ _ _ _ h => .inl h
   rintro n hF2
   dsimp only at hF2 ⊢
   have hF1 := hF2.1
   have hF3 := hF2.2.1
   have hBl := uaf hB (by omega) hF2.2.1
   have hmb2 := uc5 hBl
   refine yS fun _ K14 => ?_
   refine yS fun _ K15 => ?_
   refine yR ?_
   refine yM rfl rfl ?_
   try dsimp only [St.put]
   refine bw rfl (iy rfl rfl zG trivial (by rfl)) ?_
   refine yM rfl rfl ?_
   refine yM rfl rfl ?_
   try dsimp only [St.put]
   refine ae rfl (ay rfl rfl rfl (yl p (rmR p i) (rmC p i) i x n hok hx (by have := hF2.1; have := hF2.2.1; omega) hB.r) ?_)
   try dsimp only [St.put]
   refine ae rfl (ay rfl rfl rfl (td p _ _ hok (uaf hB (by have := hF2.1; omega) hF2.2.1)) ?_)
   refine aa rfl (bl rfl rfl rfl (by omega)) ?_
   refine yM rfl rfl ?_
   refine aa rfl (ca rfl rfl rfl) ?_
   refine yN ?_
   dsimp only [St.put]
   refine K15 _ ?_
   refine am rfl (fun hc => ?_) (fun hc => ?_)
   ·replace hc := of_decide_eq_true hc
    have hnot : ¬ (bk p).most (rmR p i) (rmC p i) ≤ n + (bk p).most ((bk p).lessR (rmR p i) i n) (dq (rmC p i) i) := by omega
    refine av ?_
    refine K14 _ ?_
    refine az ?_
    refine yR ?_
    refine yM rfl rfl ?_
    refine aa rfl (fq rfl rfl rfl (by omega)) ?_
    refine yA rfl rfl ?_
    refine yN ?_
    dsimp only [St.put]
    have hd := FromTop.down hP hF2 hnot
    have hd1 := hd.1
    exact ⟨n - 1, by omega, hd, ⟨⟨rfl, rfl⟩, zF, zB, zN, zX⟩⟩
   replace hc := of_decide_eq_false hc
   have hnw := FromTop.stop hP hF2 (by omega)
   rw [← uas] at hnw
   subst hnw
   refine cn ?_
   refine K13 _ ?_
   refine yS fun _ K16 => ?_
   refine yR ?_
   try dsimp only [St.put]
   refine bw rfl (iy rfl rfl zG trivial (by rfl)) ?_
   refine yM rfl rfl ?_
   refine yM rfl rfl ?_
   try dsimp only [St.put]
   refine ae rfl (ay rfl rfl rfl (yl p (rmR p i) (rmC p i) i x (fl p i) hok hx (by have := hF2.1; have := hF2.2.1; omega) hB.r) ?_)
   try dsimp only [St.put]
   refine ae rfl (c6 rfl rfl rfl zG rfl rfl (by rfl) ?_)
   refine yN ?_
   dsimp only [St.put]
   refine K16 _ ?_
   refine yR ?_
   refine yM rfl rfl ?_
   refine yM rfl rfl ?_
   try dsimp only [St.put]
   refine ae rfl (dp rfl rfl rfl (by decide) (by decide) zR (by decide) ?_)
   try dsimp only [St.put]
   refine ae rfl (jr ([fl p i]) rfl rfl zG zE rfl rfl zA ?_ zA)
   refine yA rfl rfl ?_
   refine yN ?_
   dsimp only [St.put]
   refine K10 _ ?_
   refine yR ?_
   refine aa rfl (bl rfl rfl rfl (by omega)) ?_
   refine yM rfl rfl ?_
   refine yN ?_
   dsimp only [St.put]
   have e := sl i (fl p)
   rw [← e]
   exact ⟨i + 1, by omega, by omega, ⟨⟨rfl, rfl⟩, zF, zB, zN, zX⟩⟩
  replace hc := of_decide_eq_false hc
  obtain rfl : i = p.pages.length := by omega
  refine cn ?_
  refine K6 _ ?_
  refine yS fun _ K17 => ?_
  refine yR ?_
  refine yM rfl rfl ?_
  refine yA rfl rfl ?_
  refine yA rfl rfl ?_
  refine yN ?_
  dsimp only [St.put]
  refine K17 _ ?_
  refine ar ?_
  refine gz rfl (d7 (by constructor)) (d7 (by constructor)) zN zS ?_ ?_
  ·rw [hV]; exact zW
  rw [hL]; exact zW
 refine yR ?_
 refine yE rfl rfl rfl ?_
 try dsimp only [St.put]
 refine ae rfl (d9 rfl rfl rfl (n2 n0 p) zG (by dsimp only [St.put]; omega) ?_)
 refine yX rfl rfl rfl rfl ?_
 refine yX rfl rfl rfl rfl ?_
 try dsimp only [St.put]
 refine ae rfl (d9 rfl rfl rfl (ta n0 p (ji p) (cj p) pk hL) zG (by dsimp only [St.put]; omega) ?_)
 refine yM rfl rfl ?_
 refine yX rfl rfl rfl rfl ?_
 refine yX rfl rfl rfl rfl ?_
 try dsimp only [St.put]
 refine ae rfl (dx rfl ?_)
 try dsimp only [St.put]
 refine ae rfl (c6 rfl rfl rfl zG rfl rfl (by rfl) ?_)
 refine yA rfl rfl ?_
 refine yN ?_
 dsimp only [St.put]
 refine K2 _ ?_
 refine yS fun _ K18 => ?_
 refine yS fun _ K19 => ?_
 refine yR ?_
 refine yM rfl rfl ?_
 refine aa rfl (fb rfl rfl rfl) ?_
 refine yN ?_
 dsimp only [St.put]
 refine K19 _ ?_
 refine am rfl (fun hc => ?_) (fun hc => ?_)
 ·have hV : nk p = [] := by unfold nk; rw [lg hL]
  refine yS fun _ K20 => ?_
  refine yR ?_
  refine yM rfl rfl ?_
  refine yA rfl rfl ?_
  refine yA rfl rfl ?_
  refine yN ?_
  dsimp only [St.put]
  refine K20 _ ?_
  refine ar ?_
  refine gz rfl (d7 (by constructor)) (d7 (by constructor)) zN zS ?_ ?_
  ·rw [hV]; exact zW
  exact zW
 exact absurd (g6 hc) hL
end Go.Proofs.YtbbdginipiljdaaGreatDoor
namespace Go.Proofs.YtbbdginipiljdaaGreatDoor
set_option maxRecDepth 10000
open Go Go.RowKit Go.AB
open Go.AB.Enc (cells)
open Go.PB (aw ai PlaceD bc bg bf bp aq af ci bn cx cz)
set_option maxHeartbeats 1000000 in
theorem uir (nF : Nat) (n : Nat) (hb : n ≤ 8) : xh nF er Tryz.prog 89 [.elem [.v (.int .i64 (n : Int))]] (2 ^ n) (fun s => [.v (.int .i64 (s : Int)), lst (ep n s)]) := by
 refine udw Tryz.func89 rfl rfl fun I hN hcl ok hG hn => ?_
 simp only [Tryz.ntmps89, List.length_cons, List.length_nil, Nat.reduceAdd, Nat.reduceSub]
 have h256 : 2 ^ n ≤ 2 ^ 8 := Nat.pow_le_pow_right (by omega) hb
 refine kb 2 ?_
 refine zQ ?_
 refine pd ?_
 dsimp only [FC.st]
 refine bq fun hlt => ?_
 dsimp only at hlt
 refine iu ?_
 try dsimp only [St.put]
 first | refine bw rfl (bv rfl rfl) ?_ | refine bw rfl (d8 rfl rfl (Enc.len _)) ?_ | refine bw rfl (d8 rfl rfl rfl) ?_ | refine bw rfl (f7 rfl rfl zG trivial (by first | rfl | assumption)) ?_ | refine bw rfl (iy rfl rfl zG trivial (by rfl)) ?_ | refine bw rfl (pt rfl rfl zG trivial (by simp)) ?_ | refine bw rfl (ja rfl rfl zG trivial (qc (by assumption) rfl)) ?_ | refine bw rfl (ja rfl rfl zG trivial (by assumption)) ?_ | refine bw rfl (qu rfl rfl zG trivial rfl (by assumption) rfl (by decide)) ?_ | refine bw rfl (mu rfl rfl zG (by rfl)) ?_
 refine aa rfl (ucz (n := n) rfl rfl rfl (by omega)) ?_
 refine aa rfl (gn rfl (by constructor)) ?_
 refine iv ?_
 dsimp only [St.put]
 show jt _ _ _ _ _ _ _
 refine pf ok rfl ⟨rfl, rfl, zK, zN, zS, zK⟩ ?_
 refine rn ?_
 refine kb 9 ?_
 refine zQ ?_
 refine zo (X := Nat) (fun s => s ≤ 2 ^ n) (fun s => 2 ^ n - s) (fun s => [(3, .any), (4, .any), (5, .any), (8, .v (.int .i64 (s : Int)))]) (fun s => s) 0 rfl ?_ ?_ ?_ ?_ ?_
 ·exact Nat.zero_le _
 ·exact zF
 ·rfl
 ·rintro s hI
  exact zL
 ·rintro s hI
  dsimp only at hI ⊢
  refine kb 9 ?_
  refine zQ ?_
  refine pd ?_
  dsimp only [FC.st]
  refine bq fun hlt => ?_
  dsimp only at hlt
  refine iu ?_
  refine aa rfl (ca rfl rfl rfl) ?_
  refine iv ?_
  dsimp only [St.put]
  show jt _ _ _ _ _ _ _
  refine pf ok rfl ⟨rfl, rfl, zK, zN, zS, zK⟩ ?_
  refine pc fun K1 hK1 => ?_
  refine ua rfl (fun hc => ?_) (fun hc => ?_)
  ·replace hc := of_decide_eq_true hc
   have hs : s < 2 ^ n := by omega
   refine t8 ?_
   refine hK1 _ _ ?_
   refine pc fun K2 hK2 => ?_
   refine rn ?_
   refine kb 9 ?_
   refine zQ ?_
   refine pd ?_
   dsimp only [FC.st]
   refine bq fun hlt => ?_
   dsimp only at hlt
   refine iu ?_
   refine aa rfl (gn rfl (by constructor)) ?_
   refine aa rfl (et rfl (by constructor)) ?_
   refine iv ?_
   dsimp only [St.put]
   show jt _ _ _ _ _ _ _
   refine wx ?_
   refine iu ?_
   refine aa rfl (et rfl (by constructor)) ?_
   refine iv ?_
   dsimp only [St.put]
   show jt _ _ _ _ _ _ _
   refine wx ?_
   refine nh 4 3 1 rfl (by decide) ?_
   dsimp only [List.set_cons_zero, List.set_cons_succ]
   refine qh fun K3 hK3 => ?_
   refine iu ?_
   try dsimp only [St.put]
   first | refine bw rfl (bv rfl rfl) ?_ | refine bw rfl (d8 rfl rfl (Enc.len _)) ?_ | refine bw rfl (d8 rfl rfl rfl) ?_ | refine bw rfl (f7 rfl rfl zG trivial (by first | rfl | assumption)) ?_ | refine bw rfl (iy rfl rfl zG trivial (by rfl)) ?_ | refine bw rfl (pt rfl rfl zG trivial (by simp)) ?_ | refine bw rfl (ja rfl rfl zG trivial (qc (by assumption) rfl)) ?_ | refine bw rfl (ja rfl rfl zG trivial (by assumption)) ?_ | refine bw rfl (qu rfl rfl zG trivial rfl (by assumption) rfl (by decide)) ?_ | refine bw rfl (mu rfl rfl zG (by rfl)) ?_
   refine aa rfl (gn rfl (by constructor)) ?_
   refine iv ?_
   dsimp only [St.put]
   refine hK3 _ ?_
   refine az ?_
   refine cb 13 ?_
   refine zQ ?_
   refine ct ((ak (I.G s) I.nx (.tip (ep 0 s).length 3 1))) zX ?_
   dsimp only
   refine cr (X := Nat) (fun k => k ≤ n) (fun k => n - k) (fun k => [(4, .list ((ep k s).map cells) (.tip I.nx)), (5, .any), (12, .v (.int .i64 (k : Int)))]) (fun k G' => (ak (I.G s) I.nx (.tip (ep k s).length 3 1))) 0 rfl ?_ ?_ ?_ ?_ ?_ ?_
   ·exact Nat.zero_le _
   ·exact zF
   ·exact zX
   ·rintro k hI
    exact zL
   ·rintro k hI
    exact zH
   ·rintro k hK
    dsimp only at hK ⊢
    refine qh fun K4 hK4 => ?_
    refine iu ?_
    refine aa rfl (ca rfl rfl rfl) ?_
    refine iv ?_
    dsimp only [St.put]
    refine hK4 _ ?_
    refine qh fun K5 hK5 => ?_
    refine am rfl (fun hc => ?_) (fun hc => ?_)
    ·replace hc := of_decide_eq_true hc
     have hml := tq k s
     refine av ?_
     refine hK5 _ ?_
     refine qh fun K6 hK6 => ?_
     refine az ?_
     refine qh fun K7 hK7 => ?_
     refine iu ?_
     refine aa rfl (gn rfl (by constructor)) ?_
     refine aa rfl (et rfl (by constructor)) ?_
     refine iv ?_
     dsimp only [St.put]
     refine hK7 _ ?_
     refine qh fun K8 hK8 => ?_
     refine iu ?_
     refine aa rfl (gn rfl (by constructor)) ?_
     refine aa rfl (gn rfl (by constructor)) ?_
     refine aa rfl (yy (m := s) (n := k) rfl rfl rfl (by show k ≤ 64; omega) (by show (s : Int) ≤ 9223372036854775807; omega) (by decide)) ?_
     refine aa rfl (y4 (m := s / 2 ^ k) rfl rfl rfl (Nat.lt_of_le_of_lt (Nat.div_le_self _ _) (by show s < 2 ^ 64; omega)) (by decide)) ?_
     refine aa rfl (ff rfl rfl rfl) ?_
     refine iv ?_
     dsimp only [St.put]
     refine hK8 _ ?_
     refine am rfl (fun hc => ?_) (fun hc => ?_)
     ·have hb1 : s.testBit k = true := bit_eq.1 (of_decide_eq_true hc)
      refine iu ?_
      refine aa rfl (gn rfl (by constructor)) ?_
      refine aa rfl (gn rfl (by constructor)) ?_
      try dsimp only [St.put]
      refine ae rfl (dp rfl rfl rfl (by decide) (by decide) zR (by decide) ?_)
      try dsimp only [St.put]
      refine ae rfl (jr ([(k : Int)]) rfl rfl zG zE rfl rfl zA ?_ zA)
      refine aa rfl (et rfl (by constructor)) ?_
      refine iv ?_
      dsimp only [St.put]
      refine hK6 _ ?_
      refine iu ?_
      first | refine aa rfl (bl rfl rfl rfl (by omega)) ?_ | refine aa rfl (tp rfl rfl rfl) ?_
      refine aa rfl (gn rfl (by constructor)) ?_
      refine iv ?_
      dsimp only [St.put]
      have e := udd k s
      first
      | (have q : s.testBit k = true := hb1
         rw [q, cond_true] at e
         rw [← e]
         exact ⟨k + 1, by omega, by omega, ⟨⟨rfl, rfl⟩, zF, zB, zN, zX⟩⟩)
      | (have q : s.testBit k = false := hb0
         rw [q, cond_false, List.append_nil] at e
         rw [← e]
         exact ⟨k + 1, by omega, by omega, ⟨⟨rfl, rfl⟩, zF, zB, zN, zX⟩⟩)
     ·have hb0 : s.testBit k = false := by
       have := of_decide_eq_false hc
       rw [bit_eq, Bool.not_eq_true] at this
       exact this
      refine av ?_
      refine hK6 _ ?_
      refine iu ?_
      first | refine aa rfl (bl rfl rfl rfl (by omega)) ?_ | refine aa rfl (tp rfl rfl rfl) ?_
      refine aa rfl (gn rfl (by constructor)) ?_
      refine iv ?_
      dsimp only [St.put]
      have e := udd k s
      first
      | (have q : s.testBit k = true := hb1
         rw [q, cond_true] at e
         rw [← e]
         exact ⟨k + 1, by omega, by omega, ⟨⟨rfl, rfl⟩, zF, zB, zN, zX⟩⟩)
      | (have q : s.testBit k = false := hb0
         rw [q, cond_false, List.append_nil] at e
         rw [← e]
         exact ⟨k + 1, by omega, by omega, ⟨⟨rfl, rfl⟩, zF, zB, zN, zX⟩⟩)
    ·replace hc := of_decide_eq_false hc
     obtain rfl : k = n := by omega
     refine xd 4 (lst (ep k s)) rfl Wk.tok ?_
     refine cn ?_
     show jt _ _ _ _ _ _ _
     refine pf ok rfl ⟨rfl, rfl, zK, zN, zS, zK⟩ ?_
     refine pc fun K9 hK9 => ?_
     refine ud3 ?_
     refine qb rfl (gn rfl (by constructor)) ?_
     refine qb rfl (gn rfl (by constructor)) ?_
     refine qb rfl (gn rfl (by constructor)) ?_
     try dsimp only [St.put]
     refine ud7 ok (by rw [hN]; exact hs) rfl rfl rfl rfl (by rw [hcl]; rfl) ?_
     refine qb rfl (dl rfl rfl) ?_
     refine ud8 ?_
     dsimp only [St.put]
     refine hK9 _ _ ?_
     refine ua rfl (fun h => by cases h) (fun _ => ?_)
     refine t8 ?_
     refine hK2 _ _ ?_
     refine kb 9 ?_
     refine zQ ?_
     refine zm ok rfl ?_
     dsimp only [FC.st]
     refine bq fun hlt => ?_
     dsimp only at hlt
     refine iu ?_
     first | refine aa rfl (bl rfl rfl rfl (by omega)) ?_ | refine aa rfl (tp rfl rfl rfl) ?_
     refine aa rfl (gn rfl (by constructor)) ?_
     refine iv ?_
     dsimp only [St.put]
     refine ⟨⟨rfl, rfl, zK, zN, zS, zK⟩, ?_⟩
     exact ⟨s + 1, by omega, by omega, rfl, ⟨⟨rfl, rfl⟩, zF, zB, zN, zX⟩⟩
  ·replace hc := of_decide_eq_false hc
   obtain rfl : s = 2 ^ n := by omega
   refine zp ?_
   exact ⟨.inl rfl, rfl⟩
end Go.Proofs.YtbbdginipiljdaaGreatDoor
namespace Go.AB
open Go Go.RowKit
open Go.AB.Enc (cells)
open Go.PB (aw ai PlaceD bc bg bf bp aq af ci bn cx cz)
theorem uoe {so : Nat → Bool} {n k : Nat} : ((ey so n k).getD []).length ≤ n := by
 rcases xc so n k with ⟨h, _⟩ | ⟨b, h, k⟩
 ·rw [h]; exact Nat.zero_le _
 rw [h]
 obtain ⟨s, _, _, rfl⟩ := k.get
 exact tq n s
theorem uoc {so : Nat → Bool} {n k : Nat} (h : so k = false) : ey so n (k + 1) = ey so n k := by
 cases hb : ey so n k with
 | none => rw [ufh hb, h]; rfl
 | some b => rw [uad hb, h]; rfl
theorem uof {so : Nat → Bool} {n k : Nat} (hb : ey so n k = none) (h : so k = true) : ey so n (k + 1) = some (ep n k) := by rw [ufh hb, h]; rfl
theorem uod {so : Nat → Bool} {n k : Nat} {b : List Int} (hb : ey so n k = some b) (h : so k = true) : ey so n (k + 1) = bif ip (ep n k) b then some (ep n k) else some b := by rw [uad hb, h]; rfl
theorem ua1 {α : Type} {l : List α} {k : Nat} {x : α} (h : l[k]? = some x) : l.take (k + 1) = l.take k ++ [x] := by rw [List.take_add_one, h]; rfl
theorem ug5 (p : af) (l : List Int) (z : Int) : nl p (l ++ [z]) = nl p l ++ bif decide (z < (p.firsts.length : Int)) then [z] else [] := by
 unfold nl
 rw [List.filter_append]
 cases h : decide (z < (p.firsts.length : Int)) <;> simp [h]
theorem ug2 (p : af) (l : List Int) (z : Int) : mr p (l ++ [z]) = mr p l ++ bif decide (z < (p.firsts.length : Int)) then [] else [z - (p.firsts.length : Int)] := by
 unfold mr
 rw [List.filter_append, List.map_append]
 cases h : decide (z < (p.firsts.length : Int)) <;> simp [h]
theorem ug6 (p : af) (l : List Int) : (nl p l).length ≤ l.length := List.length_filter_le _ _
theorem ug3 (p : af) (l : List Int) : (mr p l).length ≤ l.length := by
 unfold mr
 rw [List.length_map]
 exact List.length_filter_le _ _
theorem ug4 {p : af} {z : Int} (h : z ∈ g3 p) : 0 ≤ z ∧ z < (bx p : Int) := by
 unfold g3 ng at h
 rcases xc (qo p) (bx p) (2 ^ bx p) with ⟨q, _⟩ | ⟨b, q, k⟩
 ·rw [q] at h; cases h
 rw [q] at h
 obtain ⟨s, _, _, rfl⟩ := k.get
 obtain ⟨i, rfl, hi, _⟩ := membersL_mem.1 h
 omega
end Go.AB
namespace Go.Proofs.YtbbdginipiljdaaGreatDoor
set_option maxRecDepth 10000
open Go.RowKit Go.AB
open Go.AB.Enc (cells)
open Go.PB (aw ai PlaceD bc bg bf bp aq af ci bn cx cz)
end Go.Proofs.YtbbdginipiljdaaGreatDoor
namespace Go.AB
open Go Go.RowKit
open Go.AB.Enc (cells)
open Go.PB (aw ai PlaceD bc bg bf bp aq af ci bn cx cz)
theorem uob {so : Nat → Bool} {n k : Nat} {b : List Int} (hb : ey so n k = some b) (h : ip (ep n k) b = false) : ey so n (k + 1) = some b := by rw [uad hb, h, Bool.and_false]; rfl
theorem ufm {p : af} {R C : Nat → Int} (h : Bd p R C) (l : List Int) : Bd p R (kh C l) := ⟨h.r, fun j => by
 have := h.c j
 unfold kh
 cases decide ((j : Int) ∈ l)
 ·exact this
 exact ⟨Int.le_refl _, by show (0 : Int) ≤ 1000000; omega⟩, h.nr, h.np⟩
theorem uny {p : af} {m : Int} (h : cj p ≠ 0) : i0 p m = cj p := by unfold i0; rw [decide_eq_false h]; rfl
theorem unx {p : af} {m : Int} (h : cj p = 0) (hm : m < 0) : i0 p m = 2 := by unfold i0; rw [decide_eq_true h, decide_eq_true hm]; rfl
theorem unz {p : af} {m : Int} (h : cj p = 0) (hm : ¬ m < 0) (ht : g4 p = false) : i0 p m = 8 := by unfold i0; rw [decide_eq_true h, decide_eq_false hm, ht]; rfl
theorem unw {p : af} {m : Int} (h : cj p = 0) (hm : ¬ m < 0) (ht : g4 p = true) : i0 p m = 0 := by unfold i0; rw [decide_eq_true h, decide_eq_false hm, ht]; rfl
end Go.AB
namespace Go.Proofs.YtbbdginipiljdaaGreatDoor
set_option maxRecDepth 10000
open Go.RowKit Go.AB
open Go.AB.Enc (cells)
open Go.PB (aw ai PlaceD bc bg bf bp aq af ci bn cx cz)
end Go.Proofs.YtbbdginipiljdaaGreatDoor
namespace Go.AB
open Go Go.RowKit
open Go.AB.Enc (cells)
open Go.PB (aw ai PlaceD bc bg bf bp aq af ci bn cx cz)
/-- whether a set is taken, and how often one was -/
def ko (so : Nat → Bool) (n k : Nat) : Bool := so k && match ey so n k with
 | none => true
 | some b => ip (ep n k) b
def l3 (so : Nat → Bool) (n : Nat) : Nat → Nat
 | 0 => 0
 | k + 1 => l3 so n k + (ko so n k).toNat
theorem xu {so : Nat → Bool} {n k : Nat} (h : ko so n k = true) : ey so n (k + 1) = some (ep n k) ∧ l3 so n (k + 1) = l3 so n k + 1 := by
 refine ⟨?_, by show l3 so n k + (ko so n k).toNat = _; rw [h]; rfl⟩
 unfold ko at h
 rw [Bool.and_eq_true] at h
 cases hb : ey so n k with
 | none => exact uof hb h.1
 | some b =>
  have h2 := h.2
  rw [hb] at h2
  have h3 : ip (ep n k) b = true := h2
  rw [uod hb h.1, h3]; rfl
theorem xv {so : Nat → Bool} {n k : Nat} (h : ko so n k = false) : ey so n (k + 1) = ey so n k ∧ l3 so n (k + 1) = l3 so n k := by
 refine ⟨?_, by show l3 so n k + (ko so n k).toNat = _; rw [h]; rfl⟩
 unfold ko at h
 cases hs : so k
 ·exact uoc hs
 rw [hs, Bool.true_and] at h
 cases hb : ey so n k with
 | none => rw [hb] at h; cases h
 | some b =>
  rw [hb] at h
  have h3 : ip (ep n k) b = false := h
  rw [uob hb h3]
theorem uhs {so : Nat → Bool} {n k : Nat} (h : so k = false) : ko so n k = false := by unfold ko; rw [h]; rfl
theorem uht {so : Nat → Bool} {n k : Nat} (h : so k = true) (hb : ey so n k = none) : ko so n k = true := by unfold ko; rw [h, hb]; rfl
theorem uy {so : Nat → Bool} {n k : Nat} {b : List Int} (h : so k = true) (hb : ey so n k = some b) : ko so n k = ip (ep n k) b := by unfold ko; rw [h, hb]; rfl
end Go.AB
namespace Go.Proofs.YtbbdginipiljdaaGreatDoor
set_option maxRecDepth 10000
open Go Go.RowKit Go.AB
open Go.AB.Enc (cells)
open Go.PB (aw ai PlaceD bc bg bf bp aq af ci bn cx cz)
theorem ubg (m : Nat) : Pure Tryz.prog 54 [.v (.int .i64 (m : Int))] (.fn (.func 89) [.elem [.v (.int .i64 (m : Int))]]) := by
 refine co Tryz.func54 rfl (fun m => (.fn (bz (.elem (bz .v c5)) c5))) fun G nx => ?_
 simp only [Tryz.ntmps54, List.length_cons, List.length_nil, Nat.reduceAdd, Nat.reduceSub]
 refine bq fun hlt => ?_
 dsimp only at hlt
 refine yS fun _ K1 => ?_
 refine yR ?_
 try dsimp only [St.put]
 refine yB rfl rfl rfl ?_
 refine yA rfl rfl ?_
 refine yN ?_
 dsimp only [St.put]
 refine K1 _ ?_
 refine yS fun _ K2 => ?_
 refine yR ?_
 refine aa rfl (py rfl rfl) ?_
 refine yA rfl rfl ?_
 refine yN ?_
 dsimp only [St.put]
 refine K2 _ ?_
 refine ar ?_
 refine ba rfl (by constructor) zN zS ?_
 rfl
set_option maxHeartbeats 1000000 in
theorem uef (n : Nat) (m : Nat) (so : Nat → Bool) (k0 : FuncId) (caps : List C) [Fun Tryz.prog k0] (hm : m ≤ 8) (hcl : ∀ N, ∀ c ∈ caps, C.low N c) (hso : ∀ s : Nat, s < 2 ^ m → AB.Pure Tryz.prog k0 (.v (.int .i64 (s : Int)) :: lst (ep m s) :: caps) (.v (.bool (so s)))) : ez n er Tryz.prog 53 [.fn (.func 89) [.elem [.v (.int .i64 (m : Int))]], .fn (.func k0) caps, .fn (.func 57) []] (lst (ng so m)) := fun G nx hF hnx => by
 refine ib (G) (nx) Tryz.func53 rfl ((br _ _)) zN (fun hlt => zH) ?_
 simp only [Tryz.ntmps53, List.length_cons, List.length_nil, Nat.reduceAdd, Nat.reduceSub]
 refine bq fun hlt => ?_
 dsimp only at hlt
 refine yS fun _ K1 => ?_
 refine yR ?_
 try dsimp only [St.put]
 refine yB rfl rfl rfl ?_
 try dsimp only [St.put]
 refine yB rfl rfl rfl ?_
 refine yA rfl rfl ?_
 refine yN ?_
 dsimp only [St.put]
 refine K1 _ ?_
 refine yS fun _ K2 => ?_
 refine yR ?_
 try dsimp only [St.put]
 refine ae rfl (dx rfl ?_)
 refine yN ?_
 dsimp only [St.put]
 refine K2 _ ?_
 refine yS fun _ K3 => ?_
 refine yR ?_
 try dsimp only [St.put]
 refine ae rfl (dx rfl ?_)
 try dsimp only [St.put]
 refine ae rfl (c6 rfl rfl rfl zG rfl rfl (by rfl) ?_)
 refine yN ?_
 dsimp only [St.put]
 refine K3 _ ?_
 refine yS fun _ K4 => ?_
 refine yS fun _ K5 => ?_
 refine uag nx 0 [lst ([] : List Int)] zG zW ?_
 refine yR ?_
 refine yM rfl rfl ?_
 refine yN ?_
 dsimp only [St.put]
 refine K5 _ ?_
 refine az ?_
 refine cb 12 ?_
 refine zQ ?_
 refine ct ((ak (ak G nx (.box (l3 so m 0) [lst ((ey so m 0).getD [])])) (nx + 1) (.box (1 + l3 so m 0) [.v (.bool (ey so m 0).isSome)]))) zX ?_
 dsimp only
 refine ufo [12, 13] (fun k => (ak (ak G nx (.box (l3 so m k) [lst ((ey so m k).getD [])])) (nx + 1) (.box (1 + l3 so m k) [.v (.bool (ey so m k).isSome)]))) (fun k => [(13, lst (ep m k)), (12, .v (.int .i64 (k : Int)))]) (uir n m hm) (fun k => zG) (by (try dsimp only); omega) rfl rfl (fun _ => rfl) ?_ ?_ ?_ (fun lr k hrk => ?_) ?_
 ·intro k
  rfl
 ·exact zX
 ·intro k
  exact zH
 ·have hbl := uoe (so := so) (n := m) (k := k)
  have hml := tq m k
  refine yS fun _ K6 => ?_
  refine yR ?_
  refine yA rfl rfl ?_
  refine yN ?_
  dsimp only [St.put]
  refine K6 _ ?_
  refine yR ?_
  refine yA rfl rfl ?_
  refine yN ?_
  dsimp only [St.put]
  show AW _ _ _ _ _
  refine az ?_
  refine yS fun _ K7 => ?_
  refine yR ?_
  refine yL rfl rfl rfl ?_
  refine yM rfl rfl ?_
  refine yM rfl rfl ?_
  try dsimp only [St.put]
  refine ae rfl (ay rfl rfl rfl (hso k hrk) ?_)
  refine yM rfl rfl ?_
  refine ed (fun hs => ?_) (fun hs => ?_)
  ·have hw : so k = true := hs
   try dsimp only [St.put]
   refine bw rfl (f7 rfl rfl zG trivial (by first | rfl | assumption)) ?_
   refine aa rfl (dl rfl rfl) ?_
   refine yM rfl rfl ?_
   refine ed (fun hs => ?_) (fun hs => ?_)
   ·have hb0 : ey so m k = none := by simpa using hs
    have htk := xu (uht hw hb0)
    refine yK rfl ?_
    refine yK rfl ?_
    refine yK rfl ?_
    refine yK rfl ?_
    refine yK rfl ?_
    refine aa rfl (bu rfl rfl (by constructor)) ?_
    refine aa rfl (bu rfl rfl (by constructor)) ?_
    refine yN ?_
    dsimp only [St.put]
    refine K7 _ ?_
    refine am rfl (fun _ => ?_) (fun h => by cases h)
    first
    | (have hbf : ip (ep m k) b = true := (vg _ _).symm.trans hc
       have htk := xu ((uy hw hb0).trans hbf))
    | skip
    refine yR ?_
    refine yM rfl rfl ?_
    try dsimp only [St.put]
    refine ae rfl (c6 rfl rfl rfl zG rfl rfl (by rfl) ?_)
    try dsimp only [St.put]
    refine ae rfl (c6 rfl rfl rfl zG rfl rfl (by rfl) ?_)
    refine yN ?_
    dsimp only [St.put]
    dsimp only [se, un]
    first
    | (rw [htk.1, htk.2]
       exact zX)
    | (rw [hke.1, hke.2]
       try rw [hb0]
       exact zX)
   obtain ⟨b, hb0⟩ : ∃ b, ey so m k = some b := by
     cases hb : ey so m k with
     | none => rw [hb] at hs; cases hs
     | some b => exact ⟨b, rfl⟩
   rw [hb0] at hbl
   rw [hb0]
   have hbl2 : b.length ≤ m := hbl
   refine yL rfl rfl rfl ?_
   refine yM rfl rfl ?_
   try dsimp only [St.put]
   refine bw rfl (f7 rfl rfl zG trivial (by first | rfl | assumption)) ?_
   try dsimp only [St.put]
   refine ae rfl (ay rfl rfl rfl (ukc (ep m k) b (by omega) (by omega)) ?_)
   refine aa rfl (ca rfl rfl rfl) ?_
   refine aa rfl (cd rfl rfl (by constructor)) ?_
   refine aa rfl (bu rfl rfl (by constructor)) ?_
   refine yN ?_
   dsimp only [St.put]
   refine K7 _ ?_
   refine am rfl (fun hc => ?_) (fun hc => ?_)
   ·first
    | (have hbf : ip (ep m k) b = true := (vg _ _).symm.trans hc
       have htk := xu ((uy hw hb0).trans hbf))
    | skip
    refine yR ?_
    refine yM rfl rfl ?_
    try dsimp only [St.put]
    refine ae rfl (c6 rfl rfl rfl zG rfl rfl (by rfl) ?_)
    try dsimp only [St.put]
    refine ae rfl (c6 rfl rfl rfl zG rfl rfl (by rfl) ?_)
    refine yN ?_
    dsimp only [St.put]
    dsimp only [se, un]
    first
    | (rw [htk.1, htk.2]
       exact zX)
    | (rw [hke.1, hke.2]
       try rw [hb0]
       exact zX)
   first
   | (have hbf : ip (ep m k) b = false := (vg _ _).symm.trans hc
      have hke := xv ((uy hw hb0).trans hbf))
   | skip
   refine av ?_
   dsimp only [se, un]
   first
   | (rw [htk.1, htk.2]
      exact zX)
   | (rw [hke.1, hke.2]
      try rw [hb0]
      exact zX)
  have hw : so k = false := hs
  have hke := xv (uhs (n := m) hw)
  refine yK rfl ?_
  refine yK rfl ?_
  refine yK rfl ?_
  refine yK rfl ?_
  refine yK rfl ?_
  refine yK rfl ?_
  refine yK rfl ?_
  refine yK rfl ?_
  refine yK rfl ?_
  refine aa rfl (cd rfl rfl (by constructor)) ?_
  refine yN ?_
  dsimp only [St.put]
  refine K7 _ ?_
  refine am rfl (fun h => by cases h) (fun _ => ?_)
  first
  | (have hbf : ip (ep m k) b = false := (vg _ _).symm.trans hc
     have hke := xv ((uy hw hb0).trans hbf))
  | skip
  refine av ?_
  dsimp only [se, un]
  first
  | (rw [htk.1, htk.2]
     exact zX)
  | (rw [hke.1, hke.2]
     try rw [hb0]
     exact zX)
 dsimp only
 refine K4 _ ?_
 refine yS fun _ K8 => ?_
 refine yR ?_
 try dsimp only [St.put]
 refine bw rfl (f7 rfl rfl zG trivial (by first | rfl | assumption)) ?_
 refine yA rfl rfl ?_
 refine yN ?_
 dsimp only [St.put]
 refine K8 _ ?_
 refine ar ?_
 refine ba rfl (by constructor) zN zS ?_
 rfl
theorem uj9 (p : af) (R C : Nat → Int) (a : Int) (s : Nat) (l : List Int) (h : dz p) (hB : Bd p R C) (hs : s ≤ 1000) : Pure Tryz.prog 55 [.v (.int .i64 (s : Int)), lst l, .elem (cells (f8 p R C)), .elem [.v (.int .i64 a)]] (.v (.bool (decide ((bk p).f R C (fun i => s.testBit i) = a)))) := by
 refine co Tryz.func55 rfl (fun m => .v) fun G nx => ?_
 simp only [Tryz.ntmps55, List.length_cons, List.length_nil, Nat.reduceAdd, Nat.reduceSub]
 refine bq fun hlt => ?_
 dsimp only at hlt
 refine yS fun _ K1 => ?_
 refine yR ?_
 refine yA rfl rfl ?_
 refine yN ?_
 dsimp only [St.put]
 refine K1 _ ?_
 refine yS fun _ K2 => ?_
 refine fk [(0, none), (1, none), (3, none), (2, none), (4, none), (5, none)] (fun i => [].contains i) (fun i => [2].contains i) (fun i => [1, 4, 5].contains i) [] (by kernel_rfl) (by kernel_rfl) ?_
 try dsimp only [St.put]
 refine ax rfl rfl rfl rfl (d8 rfl rfl (Enc.len _)) ?_
 refine xM rfl rfl rfl rfl rfl ?_
 try dsimp only [St.put]
 refine ax rfl rfl rfl rfl (bv rfl rfl) ?_
 refine gw ?_
 try dsimp only [St.put]
 refine i1 rfl rfl rfl (ay rfl rfl rfl (ucf p R C s h hB hs) ⟨zD, ?_⟩)
 refine dd rfl rfl rfl rfl (ff rfl rfl rfl) ?_
 refine dd rfl rfl rfl rfl (et rfl (by constructor)) ?_
 refine gl ?_
 dsimp only [St.put]
 refine K2 _ ?_
 refine ar ?_
 refine ba rfl (by constructor) zN zS ?_
 rfl
theorem ukj (p : af) (m : Int) (s : Int) (l : List Int) (h : dz p) (hl : l.length ≤ 1000) (hm : ∀ z ∈ l, 0 ≤ z ∧ z < (p.pages.length : Int)) : Pure Tryz.prog 78 [.v (.int .i64 s), lst l, .elem (cells (f8 p (cm p) (cy p))), .elem [.v (.int .i64 m)]] (.v (.bool (decide (uf6 p l ≤ m)))) := by
 refine co Tryz.func78 rfl (fun m => .v) fun G nx => ?_
 simp only [Tryz.ntmps78, List.length_cons, List.length_nil, Nat.reduceAdd, Nat.reduceSub]
 refine bq fun hlt => ?_
 dsimp only at hlt
 refine yS fun _ K1 => ?_
 refine yR ?_
 refine yA rfl rfl ?_
 refine yN ?_
 dsimp only [St.put]
 refine K1 _ ?_
 refine yS fun _ K2 => ?_
 refine yR ?_
 refine yE rfl rfl rfl ?_
 try dsimp only [St.put]
 refine ae rfl (dx rfl ?_)
 try dsimp only [St.put]
 refine ae rfl (c6 rfl rfl rfl zG rfl rfl (by rfl) ?_)
 refine yN ?_
 dsimp only [St.put]
 rw [show cells (f8 p (cm p) (cy p)) = cells (f8 p (cm p) (kh (cy p) (l.take 0))) by rw [List.take_zero, ugj]]
 refine K2 _ ?_
 refine yS fun _ K3 => ?_
 refine yS fun _ K4 => ?_
 refine yR ?_
 refine yM rfl rfl ?_
 refine aa rfl (bd rfl rfl (List.length_map _)) ?_
 refine yM rfl rfl ?_
 refine yN ?_
 dsimp only [St.put]
 refine K4 _ ?_
 refine az ?_
 refine cb 14 ?_
 refine zQ ?_
 refine ct ((ak G nx (.box (0 + 1) (cells (f8 p (cm p) (kh (cy p) (l.take 0))))))) zX ?_
 dsimp only
 refine cr (X := Nat) (fun k => k ≤ l.length) (fun k => l.length - k) (fun k => [(8, .any), (9, .any), (13, .v (.int .i64 (k : Int)))]) (fun k G' => (ak G nx (.box (k + 1) (cells (f8 p (cm p) (kh (cy p) (l.take k))))))) 0 rfl ?_ ?_ ?_ ?_ ?_ ?_
 ·exact Nat.zero_le _
 ·exact zF
 ·exact zX
 ·rintro k hI
  exact zL
 ·rintro k hI
  exact zH
 rintro k hI
 dsimp only at hI ⊢
 refine yS fun _ K5 => ?_
 refine yR ?_
 refine aa rfl (ca rfl rfl rfl) ?_
 refine yN ?_
 dsimp only [St.put]
 refine K5 _ ?_
 refine yS fun _ K6 => ?_
 refine am rfl (fun hc => ?_) (fun hc => ?_)
 ·replace hc := of_decide_eq_true hc
  obtain ⟨z0, hz0⟩ : ∃ z, l[k]? = some z := cw (by omega)
  have hzb := hm z0 (fu hz0)
  obtain ⟨j, rfl⟩ : ∃ j : Nat, z0 = (j : Int) := ⟨z0.toNat, by omega⟩
  have hz := hz0
  obtain ⟨x, hx⟩ : ∃ x, p.pages[j]? = some x := cw (by omega)
  have hB := ufm (uj h) (l.take k)
  refine av ?_
  refine K6 _ ?_
  refine yS fun _ K7 => ?_
  refine az ?_
  refine yS fun _ K8 => ?_
  refine yR ?_
  refine aa rfl (bj rfl rfl rfl rfl (bi (by assumption)) (Enc.len _)) ?_
  refine yL rfl rfl rfl ?_
  refine yA rfl rfl ?_
  refine yN ?_
  dsimp only [St.put]
  refine K8 _ ?_
  refine yR ?_
  try dsimp only [St.put]
  refine bw rfl (iy rfl rfl zG trivial (by rfl)) ?_
  refine yM rfl rfl ?_
  try dsimp only [St.put]
  refine ae rfl (ay rfl rfl rfl (yl p (cm p) (kh (cy p) (l.take k)) j x 0 h hx (by omega) hB.r) ?_)
  try dsimp only [St.put]
  refine ae rfl (c6 rfl rfl rfl zG rfl rfl (by rfl) ?_)
  refine yN ?_
  dsimp only [St.put]
  refine K7 _ ?_
  refine yR ?_
  refine aa rfl (bl rfl rfl rfl (by omega)) ?_
  refine yM rfl rfl ?_
  refine yN ?_
  dsimp only [St.put]
  rw [uly, ← ugi, ← ua1 hz]
  exact ⟨k + 1, by omega, by omega, ⟨⟨rfl, rfl⟩, zF, zB, zN, zX⟩⟩
 replace hc := of_decide_eq_false hc
 rw [f5 (show l.length ≤ k by omega)]
 refine cn ?_
 refine K3 _ ?_
 refine yS fun _ K9 => ?_
 refine fk [(0, none), (2, none), (1, none), (3, none), (4, none)] (fun i => [].contains i) (fun i => [1].contains i) (fun i => [3, 4].contains i) [nx] (by kernel_rfl) (by kernel_rfl) ?_
 try dsimp only [St.put]
 refine ax rfl rfl rfl rfl (iy rfl rfl zG (by simp) (by rfl)) ?_
 try dsimp only [St.put]
 refine ax rfl rfl rfl rfl (bv rfl rfl) ?_
 refine gw ?_
 try dsimp only [St.put]
 refine i1 rfl rfl rfl (ay rfl rfl rfl (td p (cm p) (kh (cy p) l) h (ufm (uj h) l)) ⟨zD, ?_⟩)
 refine dd rfl rfl rfl rfl (tm rfl rfl rfl) ?_
 refine dd rfl rfl rfl rfl (et rfl (by constructor)) ?_
 refine gl ?_
 dsimp only [St.put]
 refine K9 _ ?_
 refine ar ?_
 refine ba rfl (by constructor) zN zS ?_
 rfl
theorem ubw (p : af) (R Q : Nat → Int) (a : Int) (N : Nat) : ∀ c ∈ [C.elem (cells (f8 p R Q)), C.elem [C.v (.int .i64 a)]], C.low N c := bz (fg _ _) (bz (.elem (bz .v c5)) c5)
set_option maxHeartbeats 1000000 in
theorem uj8 (n : Nat) (p : af) : ez n er Tryz.prog 17 [val p] (.tup [lst (atE (fa p (cj p)) [] (nl p (g3 p))), lst (atE (fa p (cj p)) [] (mr p (g3 p))), .v (.int .i64 (fa p (cj p)))]) := fun G nx hF hnx => by
 refine ib (G) (nx) Tryz.func17 rfl (.tup (bz (br _ _) (bz (br _ _) (bz .v c5)))) zN (fun hlt => zH) ?_
 simp only [Tryz.ntmps17, List.length_cons, List.length_nil, Nat.reduceAdd, Nat.reduceSub]
 refine bq fun hlt => ?_
 dsimp only at hlt
 refine yS fun _ K1 => ?_
 refine yR ?_
 try dsimp only [St.put]
 refine yB rfl rfl rfl ?_
 refine yA rfl rfl ?_
 refine yA rfl rfl ?_
 refine yA rfl rfl ?_
 refine yN ?_
 dsimp only [St.put]
 refine K1 _ ?_
 refine yS fun _ K2 => ?_
 by_cases hL : fa p (cj p) = 0
 ·refine yR ?_
  refine yE rfl rfl rfl ?_
  try dsimp only [St.put]
  refine ae rfl (d9 rfl rfl rfl (n2 n p) zG (by dsimp only [St.put]; omega) ?_)
  refine yX rfl rfl rfl rfl ?_
  refine yX rfl rfl rfl rfl ?_
  try dsimp only [St.put]
  refine ae rfl (d9 rfl rfl rfl (s9 n p (ji p) (cj p) pk hL) zG (by dsimp only [St.put]; omega) ?_)
  refine yM rfl rfl ?_
  refine yX rfl rfl rfl rfl ?_
  refine yX rfl rfl rfl rfl ?_
  try dsimp only [St.put]
  refine ae rfl (dx rfl ?_)
  try dsimp only [St.put]
  refine ae rfl (c6 rfl rfl rfl zG rfl rfl (by rfl) ?_)
  refine yA rfl rfl ?_
  refine yN ?_
  dsimp only [St.put]
  refine K2 _ ?_
  refine yS fun _ K3 => ?_
  refine yS fun _ K4 => ?_
  refine yR ?_
  refine yM rfl rfl ?_
  refine aa rfl (fb rfl rfl rfl) ?_
  refine yN ?_
  dsimp only [St.put]
  refine K4 _ ?_
  refine am rfl (fun hc => ?_) (fun hc => ?_)
  ·exact absurd hc (by decide)
  obtain ⟨h0, hTB⟩ := ri hL
  obtain ⟨hok, _⟩ := lx h0
  have hn1 := hok.nf
  have hn2 := hok.ns
  have hnr : bx p = p.firsts.length + p.seconds.length := rfl
  have hl1 := gu (bx p) (cm p)
  have hB := uj hok
  have h64 : 2 ^ bx p ≤ 2 ^ 6 := Nat.pow_le_pow_right (by omega) (by omega)
  have hwl : (g3 p).length ≤ 6 := by
   have := ufi (qo p) (bx p)
   show (ng (qo p) (bx p)).length ≤ 6
   omega
  refine av ?_
  refine K3 _ ?_
  refine yS fun _ K5 => ?_
  refine yR ?_
  try dsimp only [St.put]
  refine bw rfl (iy rfl rfl zG trivial (by rfl)) ?_
  try dsimp only [St.put]
  refine ae rfl (ay rfl rfl rfl (td p (cm p) (cy p) hok hB) ?_)
  try dsimp only [St.put]
  refine ae rfl (dx rfl ?_)
  try dsimp only [St.put]
  refine ae rfl (c6 rfl rfl rfl zG rfl rfl (by rfl) ?_)
  refine yN ?_
  dsimp only [St.put]
  refine K5 _ ?_
  refine gg (i := 5) rfl zG zC ?_
  refine gg (i := 6) rfl zG zC ?_
  dsimp only
  refine yS fun _ K6 => ?_
  refine yS fun _ K7 => ?_
  refine yR ?_
  refine yF rfl rfl rfl rfl ?_
  refine yL rfl rfl rfl ?_
  refine aa rfl (bd rfl rfl (List.length_map _)) ?_
  try dsimp only [St.put]
  refine ae rfl (ay rfl rfl rfl (ubg (bh (bx p) (cm p)).length) ?_)
  refine aa rfl (py rfl rfl) ?_
  try dsimp only [St.put]
  refine ae rfl (d9 rfl rfl rfl (uef n (bh (bx p) (cm p)).length (qo p) 55 [.elem (cells (f8 p (cm p) (cy p))), .elem [.v (.int .i64 ((bk p).most (cm p) (cy p)))]] (by rw [hl1]; omega) (ubw p _ _ _) (fun s hs => uj9 p (cm p) (cy p) _ s _ hok hB (by rw [hl1] at hs; omega))) zG (by dsimp only [St.put]; omega) ?_)
  refine aa rfl (bd rfl rfl (List.length_map _)) ?_
  refine yM rfl rfl ?_
  refine yN ?_
  dsimp only [St.put]
  rw [hl1, show ng (qo p) (bx p) = g3 p from rfl]
  refine K7 _ ?_
  refine nh 2 3 1 rfl (by decide) ?_
  refine nh 3 3 1 rfl (by decide) ?_
  dsimp only [List.set_cons_zero, List.set_cons_succ]
  refine az ?_
  refine cb 30 ?_
  refine zQ ?_
  refine ct ((ak (ak G (nx + 1 + 1) (.tip (nl p ((g3 p).take 0)).length 3 1)) (nx + 1 + 1 + 1) (.tip (mr p ((g3 p).take 0)).length 3 1))) zX ?_
  dsimp only
  refine cr (X := Nat) (fun k => k ≤ (g3 p).length) (fun k => (g3 p).length - k) (fun k => [(2, .list ((nl p ((g3 p).take k)).map cells) (.tip (nx + 1 + 1))), (3, .list ((mr p ((g3 p).take k)).map cells) (.tip (nx + 1 + 1 + 1))), (8, .any), (29, .v (.int .i64 (k : Int)))]) (fun k G' => (ak (ak G (nx + 1 + 1) (.tip (nl p ((g3 p).take k)).length 3 1)) (nx + 1 + 1 + 1) (.tip (mr p ((g3 p).take k)).length 3 1))) 0 rfl ?_ ?_ ?_ ?_ ?_ ?_
  ·exact Nat.zero_le _
  ·exact zF
  ·exact zX
  ·rintro k hI
   exact zL
  ·rintro k hI
   exact zH
  rintro k hK
  dsimp only at hK ⊢
  refine yS fun _ K8 => ?_
  refine yR ?_
  refine aa rfl (ca rfl rfl rfl) ?_
  refine yN ?_
  dsimp only [St.put]
  refine K8 _ ?_
  refine yS fun _ K9 => ?_
  refine am rfl (fun hc => ?_) (fun hc => ?_)
  ·replace hc := of_decide_eq_true hc
   obtain ⟨z, hz⟩ : ∃ z, (g3 p)[k]? = some z := cw (by omega)
   have hzb := ug4 (fu hz)
   have hF3 := ug5 p ((g3 p).take k) z
   have hS3 := ug2 p ((g3 p).take k) z
   rw [← ua1 hz] at hF3 hS3
   have hlF := ug6 p ((g3 p).take k)
   have hlS := ug3 p ((g3 p).take k)
   have hlt2 : ((g3 p).take k).length ≤ 6 := by rw [List.length_take]; omega
   refine av ?_
   refine K9 _ ?_
   refine yS fun _ K10 => ?_
   refine az ?_
   refine yS fun _ K11 => ?_
   refine yR ?_
   refine aa rfl (bj rfl rfl rfl rfl (bi (by assumption)) (Enc.len _)) ?_
   refine yL rfl rfl rfl ?_
   refine yA rfl rfl ?_
   refine yN ?_
   dsimp only [St.put]
   refine K11 _ ?_
   refine yS fun _ K12 => ?_
   refine yR ?_
   refine yM rfl rfl ?_
   refine yF rfl rfl rfl rfl ?_
   refine yL rfl rfl rfl ?_
   refine aa rfl (bd rfl rfl (List.length_map _)) ?_
   refine aa rfl (ca rfl rfl rfl) ?_
   refine yN ?_
   dsimp only [St.put]
   refine K12 _ ?_
   refine am rfl (fun hc => ?_) (fun hc => ?_)
   ·have hyes := of_decide_eq_true hc
    refine yR ?_
    refine yM rfl rfl ?_
    refine yM rfl rfl ?_
    try dsimp only [St.put]
    refine ae rfl (dp rfl rfl rfl (by decide) (by decide) zR (by decide) ?_)
    try dsimp only [St.put]
    refine ae rfl (jr ([z]) rfl rfl zG zE rfl rfl zA ?_ zA)
    refine yA rfl rfl ?_
    refine yN ?_
    dsimp only [St.put]
    refine K10 _ ?_
    refine yR ?_
    refine aa rfl (bl rfl rfl rfl (by omega)) ?_
    refine yM rfl rfl ?_
    refine yN ?_
    dsimp only [St.put]
    first
    | (have hy2 : z < (p.firsts.length : Int) := hyes
       rw [decide_eq_true hy2, cond_true] at hF3 hS3
       rw [List.append_nil] at hS3
       simp only [← hF3]
       rw [← hS3]
       exact ⟨k + 1, by omega, by omega, ⟨⟨rfl, rfl⟩, zF, zB, zN, zX⟩⟩)
    | (have hy2 : ¬ z < (p.firsts.length : Int) := hno
       rw [decide_eq_false hy2, cond_false] at hF3 hS3
       rw [List.append_nil] at hF3
       simp only [← hS3]
       rw [← hF3]
       exact ⟨k + 1, by omega, by omega, ⟨⟨rfl, rfl⟩, zF, zB, zN, zX⟩⟩)
   have hno := of_decide_eq_false hc
   refine yR ?_
   refine yM rfl rfl ?_
   refine yM rfl rfl ?_
   refine yF rfl rfl rfl rfl ?_
   refine yL rfl rfl rfl ?_
   refine aa rfl (bd rfl rfl (List.length_map _)) ?_
   refine aa rfl (fq rfl rfl rfl (by omega)) ?_
   try dsimp only [St.put]
   refine ae rfl (dp rfl rfl rfl (by decide) (by decide) zR (by decide) ?_)
   try dsimp only [St.put]
   refine ae rfl (jr ([z - (p.firsts.length : Int)]) rfl rfl zG zE rfl rfl zA ?_ zA)
   refine yA rfl rfl ?_
   refine yN ?_
   dsimp only [St.put]
   refine K10 _ ?_
   refine yR ?_
   refine aa rfl (bl rfl rfl rfl (by omega)) ?_
   refine yM rfl rfl ?_
   refine yN ?_
   dsimp only [St.put]
   first
   | (have hy2 : z < (p.firsts.length : Int) := hyes
      rw [decide_eq_true hy2, cond_true] at hF3 hS3
      rw [List.append_nil] at hS3
      simp only [← hF3]
      rw [← hS3]
      exact ⟨k + 1, by omega, by omega, ⟨⟨rfl, rfl⟩, zF, zB, zN, zX⟩⟩)
   | (have hy2 : ¬ z < (p.firsts.length : Int) := hno
      rw [decide_eq_false hy2, cond_false] at hF3 hS3
      rw [List.append_nil] at hF3
      simp only [← hS3]
      rw [← hF3]
      exact ⟨k + 1, by omega, by omega, ⟨⟨rfl, rfl⟩, zF, zB, zN, zX⟩⟩)
  replace hc := of_decide_eq_false hc
  refine cn ?_
  refine K6 _ ?_
  refine yS fun _ K13 => ?_
  refine yR ?_
  refine yM rfl rfl ?_
  refine yM rfl rfl ?_
  refine yA rfl rfl ?_
  refine yA rfl rfl ?_
  refine yA rfl rfl ?_
  refine yN ?_
  dsimp only [St.put]
  refine K13 _ ?_
  refine ar ?_
  refine uep rfl (d7 (by constructor)) (d7 (by constructor)) (d7 (by constructor)) zN zS ?_ ?_ ?_
  ·rw [hL, po, f5 (show (g3 p).length ≤ k by omega)]; exact zW
  ·rw [hL, po, f5 (show (g3 p).length ≤ k by omega)]; exact zW
  rw [hL]; exact zW
 refine yR ?_
 refine yE rfl rfl rfl ?_
 try dsimp only [St.put]
 refine ae rfl (d9 rfl rfl rfl (n2 n p) zG (by dsimp only [St.put]; omega) ?_)
 refine yX rfl rfl rfl rfl ?_
 refine yX rfl rfl rfl rfl ?_
 try dsimp only [St.put]
 refine ae rfl (d9 rfl rfl rfl (ta n p (ji p) (cj p) pk hL) zG (by dsimp only [St.put]; omega) ?_)
 refine yM rfl rfl ?_
 refine yX rfl rfl rfl rfl ?_
 refine yX rfl rfl rfl rfl ?_
 try dsimp only [St.put]
 refine ae rfl (dx rfl ?_)
 try dsimp only [St.put]
 refine ae rfl (c6 rfl rfl rfl zG rfl rfl (by rfl) ?_)
 refine yA rfl rfl ?_
 refine yN ?_
 dsimp only [St.put]
 refine K2 _ ?_
 refine yS fun _ K14 => ?_
 refine yS fun _ K15 => ?_
 refine yR ?_
 refine yM rfl rfl ?_
 refine aa rfl (fb rfl rfl rfl) ?_
 refine yN ?_
 dsimp only [St.put]
 refine K15 _ ?_
 refine am rfl (fun hc => ?_) (fun hc => ?_)
 ·try replace hc := of_decide_eq_true hc
  refine yS fun _ K16 => ?_
  refine yR ?_
  refine yM rfl rfl ?_
  refine yA rfl rfl ?_
  refine yA rfl rfl ?_
  refine yA rfl rfl ?_
  refine yN ?_
  dsimp only [St.put]
  refine K16 _ ?_
  refine ar ?_
  refine uep rfl (d7 (by constructor)) (d7 (by constructor)) (d7 (by constructor)) zN zS ?_ ?_ ?_
  ·rw [lg hL]; exact zW
  ·rw [lg hL]; exact zW
  exact zW
 exact absurd (g6 hc) hL
set_option maxHeartbeats 1000000 in
theorem uki (n : Nat) (p : af) (m : Int) : ez n er Tryz.prog 35 [val p, .v (.int .i64 m)] (.tup [lst (jy p m), .v (.int .i64 (i0 p m))]) := fun G nx hF hnx => by
 refine ib (G) (nx) Tryz.func35 rfl (.tup (bz (br _ _) (bz .v c5))) zN (fun hlt => zH) ?_
 simp only [Tryz.ntmps35, List.length_cons, List.length_nil, Nat.reduceAdd, Nat.reduceSub]
 refine bq fun hlt => ?_
 dsimp only at hlt
 refine yS fun _ K1 => ?_
 refine yR ?_
 try dsimp only [St.put]
 refine yB rfl rfl rfl ?_
 try dsimp only [St.put]
 refine yB rfl rfl rfl ?_
 refine yA rfl rfl ?_
 refine yA rfl rfl ?_
 refine yN ?_
 dsimp only [St.put]
 refine K1 _ ?_
 refine yS fun _ K2 => ?_
 refine yR ?_
 refine yE rfl rfl rfl ?_
 try dsimp only [St.put]
 refine ae rfl (d9 rfl rfl rfl (n2 n p) zG (by dsimp only [St.put]; omega) ?_)
 refine yM rfl rfl ?_
 refine yX rfl rfl rfl rfl ?_
 refine yX rfl rfl rfl rfl ?_
 refine yA rfl rfl ?_
 refine yA rfl rfl ?_
 refine yN ?_
 dsimp only [St.put]
 refine K2 _ ?_
 refine yS fun _ K3 => ?_
 refine yS fun _ K4 => ?_
 refine yR ?_
 refine yM rfl rfl ?_
 refine aa rfl (fb rfl rfl rfl) ?_
 refine yN ?_
 dsimp only [St.put]
 refine K4 _ ?_
 refine am rfl (fun hc => ?_) (fun hc => ?_)
 ·have h0 : cj p ≠ 0 := jj hc
  have hE : i0 p m = cj p := uny h0
  have hV : jy p m = [] := by unfold jy; rw [hE, lg h0]
  refine yS fun _ K5 => ?_
  refine yR ?_
  refine yM rfl rfl ?_
  refine yA rfl rfl ?_
  refine yA rfl rfl ?_
  refine yN ?_
  dsimp only [St.put]
  refine K5 _ ?_
  refine ar ?_
  refine gz rfl (d7 (by constructor)) (d7 (by constructor)) zN zS ?_ ?_
  ·rw [hV]; exact zW
  rw [hE]; exact zW
 have h0 : cj p = 0 := g6 hc
 obtain ⟨hok, _⟩ := lx h0
 have hnp := hok.np
 refine av ?_
 refine K3 _ ?_
 refine yS fun _ K6 => ?_
 refine yS fun _ K7 => ?_
 refine yR ?_
 refine yL rfl rfl rfl ?_
 refine aa rfl (ca rfl rfl rfl) ?_
 refine yN ?_
 dsimp only [St.put]
 refine K7 _ ?_
 refine am rfl (fun hc => ?_) (fun hc => ?_)
 ·have hm : m < 0 := of_decide_eq_true hc
  have hE : i0 p m = 2 := unx h0 hm
  have hV : jy p m = [] := by unfold jy; rw [hE, lg (by decide)]
  refine yS fun _ K8 => ?_
  refine yR ?_
  refine yA rfl rfl ?_
  refine yA rfl rfl ?_
  refine yN ?_
  dsimp only [St.put]
  refine K8 _ ?_
  refine ar ?_
  refine gz rfl (d7 (by constructor)) (d7 (by constructor)) zN zS ?_ ?_
  ·rw [hV]; exact zW
  rw [hE]; exact zW
 have hm : ¬ m < 0 := of_decide_eq_false hc
 refine av ?_
 refine K6 _ ?_
 refine yS fun _ K9 => ?_
 by_cases hL : fa p (cj p) = 0
 ·refine yR ?_
  refine yM rfl rfl ?_
  refine yM rfl rfl ?_
  try dsimp only [St.put]
  refine ae rfl (d9 rfl rfl rfl (s9 n p (ji p) (cj p) pk hL) zG (by dsimp only [St.put]; omega) ?_)
  refine yM rfl rfl ?_
  refine yX rfl rfl rfl rfl ?_
  refine yX rfl rfl rfl rfl ?_
  try dsimp only [St.put]
  refine ae rfl (dx rfl ?_)
  try dsimp only [St.put]
  refine ae rfl (c6 rfl rfl rfl zG rfl rfl (by rfl) ?_)
  refine yA rfl rfl ?_
  refine yN ?_
  dsimp only [St.put]
  refine K9 _ ?_
  refine gg (i := 8) rfl zG zC ?_
  dsimp only
  refine yS fun _ K10 => ?_
  refine yS fun _ K11 => ?_
  refine yR ?_
  refine yM rfl rfl ?_
  refine aa rfl (fb rfl rfl rfl) ?_
  refine yN ?_
  dsimp only [St.put]
  refine K11 _ ?_
  refine am rfl (fun hc => ?_) (fun hc => ?_)
  ·exact absurd hc (by decide)
  have hTB := (ri hL).2
  have hE : i0 p m = 0 := unw h0 hm hTB
  have hV : jy p m = ng (uh p m) p.pages.length := by unfold jy; rw [hE, po]
  refine av ?_
  refine K10 _ ?_
  refine yS fun _ K12 => ?_
  refine yR ?_
  refine yF rfl rfl rfl rfl ?_
  refine yL rfl rfl rfl ?_
  refine aa rfl (bd rfl rfl (List.length_map _)) ?_
  try dsimp only [St.put]
  refine ae rfl (ay rfl rfl rfl (ubg p.pages.length) ?_)
  refine aa rfl (py rfl rfl) ?_
  try dsimp only [St.put]
  refine ae rfl (d9 rfl rfl rfl (uef n p.pages.length (uh p m) 78 [.elem (cells (f8 p (cm p) (cy p))), .elem [.v (.int .i64 m)]] hnp (ubw p _ _ _) (fun s _ => ukj p m s _ hok (by have := tq p.pages.length s; omega) (fun z hz => by obtain ⟨i, rfl, hi, _⟩ := membersL_mem.1 hz; omega))) zG (by dsimp only [St.put]; omega) ?_)
  refine yA rfl rfl ?_
  refine yA rfl rfl ?_
  refine yN ?_
  dsimp only [St.put]
  refine K12 _ ?_
  refine ar ?_
  refine gz rfl (d7 (by constructor)) (d7 (by constructor)) zN zS ?_ ?_
  ·rw [hV]; exact zW
  rw [hE]; exact zW
 refine yR ?_
 refine yM rfl rfl ?_
 refine yM rfl rfl ?_
 try dsimp only [St.put]
 refine ae rfl (d9 rfl rfl rfl (ta n p (ji p) (cj p) pk hL) zG (by dsimp only [St.put]; omega) ?_)
 refine yM rfl rfl ?_
 refine yX rfl rfl rfl rfl ?_
 refine yX rfl rfl rfl rfl ?_
 try dsimp only [St.put]
 refine ae rfl (dx rfl ?_)
 try dsimp only [St.put]
 refine ae rfl (c6 rfl rfl rfl zG rfl rfl (by rfl) ?_)
 refine yA rfl rfl ?_
 refine yN ?_
 dsimp only [St.put]
 refine K9 _ ?_
 refine gg (i := 8) rfl zG zC ?_
 dsimp only
 refine yS fun _ K13 => ?_
 refine yS fun _ K14 => ?_
 refine yR ?_
 refine yM rfl rfl ?_
 refine aa rfl (fb rfl rfl rfl) ?_
 refine yN ?_
 dsimp only [St.put]
 refine K14 _ ?_
 refine am rfl (fun hc => ?_) (fun hc => ?_)
 ·have hTB : g4 p = false := by
   cases h : g4 p
   ·rfl
   exact absurd (by rw [h0, rh, h]; rfl) hL
  have hE : i0 p m = 8 := unz h0 hm hTB
  have hV : jy p m = [] := by unfold jy; rw [hE, lg (by decide)]
  have hL8 : fa p (cj p) = 8 := by rw [h0, rh, hTB]; rfl
  refine yS fun _ K15 => ?_
  refine yR ?_
  refine yM rfl rfl ?_
  refine yA rfl rfl ?_
  refine yA rfl rfl ?_
  refine yN ?_
  dsimp only [St.put]
  refine K15 _ ?_
  refine ar ?_
  refine gz rfl (d7 (by constructor)) (d7 (by constructor)) zN zS ?_ ?_
  ·rw [hV]; exact zW
  rw [hE, hL8]; exact zW
 exact absurd (g6 hc) hL
end Go.Proofs.YtbbdginipiljdaaGreatDoor
namespace Go.AB
open Go Go.RowKit
open Go.AB.Enc (cells)
open Go.PB (aw ai PlaceD bc bg bf bp aq af ci bn cx cz)
def qv (p : af) : Bool := !n9 p && decide (cj p = 0)
section
variable {P : Program} {o : Oper} {st : St} {K : St → Prop}
/-- What stands in a slot is known less well, ahead of an operation. -/
theorem e_wk (i : Nat) {c : C} (c' : C) (h0 : st.at i = c) (hw : Wk c c') (h : EStep P o { st with r := (i, c') :: st.r } K) : EStep P o st K := by
 intro E w a hs
 have hp := hs.at i
 rw [h0] at hp
 refine h E w a ⟨hs.d, hs.sz, fun j v hj => ?_, hs.g⟩
 simp only [ck]
 cases hb : Nat.beq i j
 ·exact hs.t j v hj
 have hij := Nat.eq_of_beq_eq_true hb
 subst hij
 have hv : a.tmps.getD i undef = v := by rw [Array.getD_eq_getD_getElem?, hj]; rfl
 rw [hv] at hp
 exact hw.2 _ _ _ hp
end
theorem lj {α : Type} [Enc α] (l : List α) : ∀ r ∈ l.map cells, r.length = Enc.n α := fun r hr => by
 obtain ⟨y, _, rfl⟩ := List.mem_map.1 hr
 exact Enc.len y
theorem readyP_true {p : af} : qv p = true ↔ n9 p = false ∧ cj p = 0 := by simp [qv]
end Go.AB
namespace Go.Proofs.YtbbdginipiljdaaGreatDoor
set_option maxRecDepth 10000
open Go Go.RowKit Go.AB
open Go.AB.Enc (cells)
open Go.PB (aw ai PlaceD bc bg bf bp aq af ci bn cx cz)
theorem uds (a : List PlaceD) : Pure Tryz.prog 61 [lst a, lst a] (.v (.bool true)) := by
 have := uo9 a a
 rwa [decide_eq_true rfl] at this
theorem udt (a : List Int) (ha : a.length ≤ 1000) : Pure Tryz.prog 19 [lst a, lst a] (.v (.bool true)) := by
 have := ub3 a a ha
 rwa [decide_eq_true rfl] at this
theorem p9 (a b c : Int) : Pure Tryz.prog 68 [.v (.int .i64 a), .v (.int .i64 b), .v (.int .i64 c)] (val (⟨a, b, c⟩ : PlaceD)) := by
 refine co Tryz.func68 rfl (fun m => (eb _ _)) fun G nx => ?_
 simp only [Tryz.ntmps68, List.length_cons, List.length_nil, Nat.reduceAdd, Nat.reduceSub]
 refine bq fun hlt => ?_
 dsimp only at hlt
 refine yS fun _ K1 => ?_
 refine yR ?_
 try dsimp only [St.put]
 refine ae rfl (dx rfl ?_)
 refine yN ?_
 dsimp only [St.put]
 refine K1 _ ?_
 refine yS fun _ K2 => ?_
 refine yR ?_
 refine yM rfl rfl ?_
 refine yM rfl rfl ?_
 refine yM rfl rfl ?_
 refine aa rfl (g7 rfl rfl) ?_
 try dsimp only [St.put]
 refine ae rfl (c6 rfl rfl rfl zG rfl rfl (by rfl) ?_)
 refine yN ?_
 dsimp only [St.put]
 refine K2 _ ?_
 refine ar ?_
 refine pi rfl (ju rfl zG (by rfl) zC rfl) zN zS ?_
 exact zW
theorem t6 (l : List PlaceD) : Pure Tryz.prog 67 [lst l] (lst l) := by
 refine co Tryz.func67 rfl (fun m => (br _ _)) fun G nx => ?_
 simp only [Tryz.ntmps67, List.length_cons, List.length_nil, Nat.reduceAdd, Nat.reduceSub]
 refine bq fun hlt => ?_
 dsimp only at hlt
 refine yS fun _ K1 => ?_
 refine yR ?_
 refine yA rfl rfl ?_
 refine yN ?_
 dsimp only [St.put]
 refine K1 _ ?_
 refine yS fun _ K2 => ?_
 refine yR ?_
 refine yM rfl rfl ?_
 refine yA rfl rfl ?_
 refine yN ?_
 dsimp only [St.put]
 refine K2 _ ?_
 refine ar ?_
 refine ba rfl (by constructor) zN zS ?_
 rfl
theorem m7 : Pure Tryz.prog 63 [] (val exPr) := by
 refine co Tryz.func63 rfl (fun m => (eb _ _)) fun G nx => ?_
 simp only [Tryz.ntmps63, List.length_cons, List.length_nil, Nat.reduceAdd, Nat.reduceSub]
 refine bq fun hlt => ?_
 dsimp only at hlt
 refine yS fun _ K1 => ?_
 refine yR ?_
 try dsimp only [St.put]
 refine ae rfl (dx rfl ?_)
 refine yN ?_
 dsimp only [St.put]
 refine K1 _ ?_
 refine yS fun _ K2 => ?_
 refine yR ?_
 try dsimp only [St.put]
 refine ae rfl (dp (rows := ([mn, iw, xIs, mp] : List ByteArray).map cells) rfl rfl rfl (by decide) (by decide) (lj _) (by decide) ?_)
 try dsimp only [St.put]
 refine ae rfl (dp (rows := ([mp, mn, iw] : List ByteArray).map cells) rfl rfl rfl (by decide) (by decide) (lj _) (by decide) ?_)
 try dsimp only [St.put]
 refine ae rfl (dp (rows := ([[mn, iw, xIs, mp], [mp, mn, iw]] : List (List ByteArray)).map cells) rfl rfl rfl (by decide) (by decide) (lj _) (by decide) ?_)
 refine aa rfl (g7 (cs := cells (⟨7, [[mn, iw, xIs, mp], [mp, mn, iw]]⟩ : aw)) rfl rfl) ?_
 try dsimp only [St.put]
 refine ae rfl (dp (rows := ([iw, sf, iw] : List ByteArray).map cells) rfl rfl rfl (by decide) (by decide) (lj _) (by decide) ?_)
 try dsimp only [St.put]
 refine ae rfl (dp (rows := ([[iw, sf, iw]] : List (List ByteArray)).map cells) rfl rfl rfl (by decide) (by decide) (lj _) (by decide) ?_)
 refine aa rfl (g7 (cs := cells (⟨3, [[iw, sf, iw]]⟩ : aw)) rfl rfl) ?_
 try dsimp only [St.put]
 refine ae rfl (dp (rows := ([⟨7, [[mn, iw, xIs, mp], [mp, mn, iw]]⟩, ⟨3, [[iw, sf, iw]]⟩] : List aw).map cells) rfl rfl rfl (by decide) (by decide) (lj _) (by decide) ?_)
 refine aa rfl (g7 (cs := [lst exTx]) rfl rfl) ?_
 refine aa rfl (g7 (cs := cells (⟨1, 50⟩ : bp)) rfl rfl) ?_
 refine aa rfl (g7 (cs := cells (⟨2, 0⟩ : bp)) rfl rfl) ?_
 try dsimp only [St.put]
 refine ae rfl (dp (rows := ([⟨1, 50⟩, ⟨2, 0⟩] : List bp).map cells) rfl rfl rfl (by decide) (by decide) (lj _) (by decide) ?_)
 refine aa rfl (g7 (cs := cells (⟨3, 60⟩ : bp)) rfl rfl) ?_
 try dsimp only [St.put]
 refine ae rfl (dp (rows := ([⟨3, 60⟩] : List bp).map cells) rfl rfl rfl (by decide) (by decide) (lj _) (by decide) ?_)
 try dsimp only [St.put]
 refine ae rfl (ay rfl rfl rfl (p9 _ _ _) ?_)
 try dsimp only [St.put]
 refine ae rfl (dp (rows := ([⟨0, 0, 0⟩] : List PlaceD).map cells) rfl rfl rfl (by decide) (by decide) (lj _) (by decide) ?_)
 try dsimp only [St.put]
 refine ae rfl (ay rfl rfl rfl (t6 [⟨0, 0, 0⟩]) ?_)
 try dsimp only [St.put]
 refine ae rfl (ay rfl rfl rfl (p9 _ _ _) ?_)
 try dsimp only [St.put]
 refine ae rfl (ay rfl rfl rfl (p9 _ _ _) ?_)
 try dsimp only [St.put]
 refine ae rfl (dp (rows := ([⟨0, 0, 0⟩, ⟨0, 0, 3⟩] : List PlaceD).map cells) rfl rfl rfl (by decide) (by decide) (lj _) (by decide) ?_)
 try dsimp only [St.put]
 refine ae rfl (ay rfl rfl rfl (t6 [⟨0, 0, 0⟩, ⟨0, 0, 3⟩]) ?_)
 refine aa rfl (g7 (cs := cells (⟨0, 0, 0, 0, [⟨0, 0, 0⟩], [⟨0, 0, 0⟩, ⟨0, 0, 3⟩]⟩ : aq)) rfl rfl) ?_
 try dsimp only [St.put]
 refine ae rfl (ay rfl rfl rfl (p9 _ _ _) ?_)
 try dsimp only [St.put]
 refine ae rfl (dp (rows := ([⟨0, 1, 1⟩] : List PlaceD).map cells) rfl rfl rfl (by decide) (by decide) (lj _) (by decide) ?_)
 try dsimp only [St.put]
 refine ae rfl (ay rfl rfl rfl (t6 [⟨0, 1, 1⟩]) ?_)
 refine aa rfl (g7 (cs := [.v (.int .i64 1), .v (.int .i64 2), .v (.int .i64 0), .v (.int .i64 (-1)), lst ([⟨0, 1, 1⟩] : List PlaceD), .list [] .nil]) rfl rfl) ?_
 try dsimp only [St.put]
 refine ae rfl (e_wk 26 (val (⟨1, 2, 0, -1, [⟨0, 1, 1⟩], []⟩ : aq)) rfl (by show Wk _ (.agg _); exact zW) ?_)
 dsimp only
 refine dp (rows := ([⟨0, 0, 0, 0, [⟨0, 0, 0⟩], [⟨0, 0, 0⟩, ⟨0, 0, 3⟩]⟩, ⟨1, 2, 0, -1, [⟨0, 1, 1⟩], []⟩] : List aq).map cells) rfl rfl rfl (by decide) (by decide) (lj _) (by decide) ?_
 refine aa rfl (g7 (cs := [lst exTx, lst exPr.firsts, lst exPr.seconds, lst exPr.pages]) rfl rfl) ?_
 try dsimp only [St.put]
 refine ae rfl (c6 rfl rfl rfl zG rfl rfl (by rfl) ?_)
 refine yN ?_
 dsimp only [St.put]
 refine K2 _ ?_
 refine ar ?_
 refine pi rfl (ju rfl zG (by rfl) zC rfl) zN zS ?_
 exact zW
theorem umf (n : Nat) (b : Bool) (r want : Int) : ez n er Tryz.prog 69 [.v (.bool b), .v (.int .i64 r), .v (.int .i64 want)] (.v (.bool (decide (j4 exPr b r = 0) && decide (oo exPr b r = want)))) := fun G nx hF hnx => by
 refine ib (G) (nx) Tryz.func69 rfl (.v) zN (fun hlt => zH) ?_
 simp only [Tryz.ntmps69, List.length_cons, List.length_nil, Nat.reduceAdd, Nat.reduceSub]
 refine bq fun hlt => ?_
 dsimp only at hlt
 refine yS fun _ K1 => ?_
 refine yR ?_
 refine yA rfl rfl ?_
 refine yN ?_
 dsimp only [St.put]
 refine K1 _ ?_
 refine yS fun _ K2 => ?_
 refine yR ?_
 try dsimp only [St.put]
 refine ae rfl (ay rfl rfl rfl (m7) ?_)
 refine yM rfl rfl ?_
 refine yM rfl rfl ?_
 try dsimp only [St.put]
 refine ae rfl (d9 rfl rfl rfl (ukk n exPr b r) zG (by dsimp only [St.put]; omega) ?_)
 refine yM rfl rfl ?_
 refine yX rfl rfl rfl rfl ?_
 refine yX rfl rfl rfl rfl ?_
 refine yA rfl rfl ?_
 refine yA rfl rfl ?_
 refine yN ?_
 dsimp only [St.put]
 refine K2 _ ?_
 refine yS fun _ K3 => ?_
 refine yR ?_
 refine yM rfl rfl ?_
 refine aa rfl (ff rfl rfl rfl) ?_
 refine ed (fun hs => ?_) (fun hs => ?_)
 ·have h1 : decide (j4 exPr b r = 0) = true := hs
  refine yM rfl rfl ?_
  refine yM rfl rfl ?_
  refine yM rfl rfl ?_
  refine aa rfl (ff rfl rfl rfl) ?_
  refine aa rfl (bu rfl rfl (by constructor)) ?_
  refine yA rfl rfl ?_
  refine yN ?_
  dsimp only [St.put]
  refine K3 _ ?_
  refine ar ?_
  refine ba rfl (by constructor) zN zS ?_
  exact vb (by rw [h1]; rfl)
 have h1 : decide (j4 exPr b r = 0) = false := hs
 refine yM rfl rfl ?_
 refine yK rfl ?_
 refine yK rfl ?_
 refine yK rfl ?_
 refine aa rfl (cd rfl rfl (by constructor)) ?_
 refine yA rfl rfl ?_
 refine yN ?_
 dsimp only [St.put]
 refine K3 _ ?_
 refine ar ?_
 refine ba rfl (by constructor) zN zS ?_
 exact vb (by rw [h1]; rfl)
theorem ume (n : Nat) (m : Int) (want : List Int) : ez n er Tryz.prog 70 [.v (.int .i64 m), lst want] (.v (.bool (decide (i0 exPr m = 0) && decide (jy exPr m = want)))) := fun G nx hF hnx => by
 refine ib (G) (nx) Tryz.func70 rfl (.v) zN (fun hlt => zH) ?_
 simp only [Tryz.ntmps70, List.length_cons, List.length_nil, Nat.reduceAdd, Nat.reduceSub]
 refine bq fun hlt => ?_
 dsimp only at hlt
 have hcl : (jy exPr m).length ≤ 1000 := by
  unfold jy atE
  cases decide (i0 exPr m = 0)
  ·exact Nat.zero_le _
  have := ufi (uh exPr m) exPr.pages.length
  have e : exPr.pages.length = 2 := rfl
  show (ng (uh exPr m) exPr.pages.length).length ≤ 1000
  omega
 refine yS fun _ K1 => ?_
 refine yR ?_
 refine yA rfl rfl ?_
 refine yN ?_
 dsimp only [St.put]
 refine K1 _ ?_
 refine yS fun _ K2 => ?_
 refine yR ?_
 try dsimp only [St.put]
 refine ae rfl (ay rfl rfl rfl (m7) ?_)
 refine yM rfl rfl ?_
 try dsimp only [St.put]
 refine ae rfl (d9 rfl rfl rfl (uki n exPr m) zG (by dsimp only [St.put]; omega) ?_)
 refine yM rfl rfl ?_
 refine yX rfl rfl rfl rfl ?_
 refine yX rfl rfl rfl rfl ?_
 refine yA rfl rfl ?_
 refine yA rfl rfl ?_
 refine yN ?_
 dsimp only [St.put]
 refine K2 _ ?_
 refine yS fun _ K3 => ?_
 refine yR ?_
 refine yM rfl rfl ?_
 refine aa rfl (ff rfl rfl rfl) ?_
 refine ed (fun hs => ?_) (fun hs => ?_)
 ·have h1 : decide (i0 exPr m = 0) = true := hs
  refine yM rfl rfl ?_
  refine yM rfl rfl ?_
  refine yM rfl rfl ?_
  try dsimp only [St.put]
  refine ae rfl (ay rfl rfl rfl (ub3 (jy exPr m) want hcl) ?_)
  refine aa rfl (bu rfl rfl (by constructor)) ?_
  refine yA rfl rfl ?_
  refine yN ?_
  dsimp only [St.put]
  refine K3 _ ?_
  refine ar ?_
  refine ba rfl (by constructor) zN zS ?_
  exact vb (by rw [h1]; rfl)
 have h1 : decide (i0 exPr m = 0) = false := hs
 refine yM rfl rfl ?_
 refine yK rfl ?_
 refine yK rfl ?_
 refine yK rfl ?_
 refine aa rfl (cd rfl rfl (by constructor)) ?_
 refine yA rfl rfl ?_
 refine yN ?_
 dsimp only [St.put]
 refine K3 _ ?_
 refine ar ?_
 refine ba rfl (by constructor) zN zS ?_
 exact vb (by rw [h1]; rfl)
theorem uow (n : Nat) : ez n er Tryz.prog 62 [val exPr, .v (.int .i64 1)] (.tup [.v (.int .i64 6), .v (.int .i64 0)]) := by
 have := uj5 n exPr 1
 rwa [xp_words.1, xp_words.2.1] at this
theorem uo0 (n : Nat) : ez n er Tryz.prog 64 [val exPr, .v (.int .i64 0)] (.tup [lst ([⟨0, 0, 0⟩, ⟨0, 0, 3⟩] : List PlaceD), .v (.int .i64 0)]) := by
 have := uci n exPr 0
 rwa [xp_found.1, xp_words.2.2.2] at this
theorem uo3 (n : Nat) : ez n er Tryz.prog 65 [val exPr, .v (.int .i64 0)] (.tup [lst ([⟨0, 0, 0⟩] : List PlaceD), .v (.int .i64 0)]) := by
 have := ukl n exPr 0
 rwa [xp_found.2, xp_words.2.2.2] at this
theorem uoz (n : Nat) : ez n er Tryz.prog 66 [val exPr, .v (.int .i64 0)] (.tup [val (⟨2, 2⟩ : bn), .v (.int .i64 0)]) := by
 have := ukh n exPr 0
 rwa [xp_guess.1, xp_guess.2] at this
theorem uoy (n : Nat) : ez n er Tryz.prog 11 [val exPr, .v (.int .i64 1)] (.tup [val (⟨0, 1⟩ : bn), .v (.int .i64 0)]) := by
 have := uce n exPr 1
 rwa [xp_remain.1, xp_remain.2.1] at this
theorem uox (n : Nat) : ez n er Tryz.prog 13 [val exPr] (.tup [val (⟨0, 1⟩ : bn), .v (.int .i64 0)]) := by
 have := uka n exPr
 rwa [ugl, uq] at this
theorem uov (n : Nat) : ez n er Tryz.prog 15 [val exPr] (.tup [lst ([1, 0] : List Int), .v (.int .i64 0)]) := by
 have := yk n exPr
 rwa [ugk, uq] at this
theorem alWhy (n : Nat) : ez n er Tryz.prog 17 [val exPr] (.tup [lst ([0] : List Int), lst ([] : List Int), .v (.int .i64 0)]) := by
 have := uj8 n exPr
 rwa [uq, po, po, xp_why.1, xp_why.2] at this
theorem uo2 (n : Nat) : ez n er Tryz.prog 69 [.v (.bool false), .v (.int .i64 0), .v (.int .i64 4)] (.v (.bool true)) := by
 have := umf n false 0 4
 rwa [xp_bound.1, xp_bound.2.1] at this
theorem uo1 (n : Nat) : ez n er Tryz.prog 70 [.v (.int .i64 0), lst ([0, 1] : List Int)] (.v (.bool true)) := by
 have := ume n 0 [0, 1]
 rwa [xp_chief.1, xp_chief.2.1] at this
set_option maxHeartbeats 4000000 in
theorem uou (n : Nat) : ez n er Tryz.prog 21 [] (.v (.bool true)) := fun G nx hF hnx => by
 refine ib (G) (nx) Tryz.func21 rfl (.v) zN (fun hlt => zH) ?_
 simp only [Tryz.ntmps21, List.length_cons, List.length_nil, Nat.reduceAdd, Nat.reduceSub]
 refine bq fun hlt => ?_
 dsimp only at hlt
 refine yS fun _ K1 => ?_
 refine yR ?_
 refine yA rfl rfl ?_
 refine yN ?_
 dsimp only [St.put]
 refine K1 _ ?_
 refine yS fun _ K2 => ?_
 refine yR ?_
 try dsimp only [St.put]
 refine ae rfl (ay rfl rfl rfl (m7) ?_)
 try dsimp only [St.put]
 refine ae rfl ((d9 rfl rfl rfl ((uow n)) zG (by dsimp only [St.put]; omega) ?_))
 refine yM rfl rfl ?_
 refine yX rfl rfl rfl rfl ?_
 refine yX rfl rfl rfl rfl ?_
 refine yA rfl rfl ?_
 refine yA rfl rfl ?_
 refine yN ?_
 dsimp only [St.put]
 refine K2 _ ?_
 refine yS fun _ K3 => ?_
 refine yR ?_
 try dsimp only [St.put]
 refine ae rfl (ay rfl rfl rfl (m7) ?_)
 try dsimp only [St.put]
 refine ae rfl ((d9 rfl rfl rfl ((uo0 n)) zG (by dsimp only [St.put]; omega) ?_))
 refine yM rfl rfl ?_
 refine yX rfl rfl rfl rfl ?_
 refine yX rfl rfl rfl rfl ?_
 refine yA rfl rfl ?_
 refine yA rfl rfl ?_
 refine yN ?_
 dsimp only [St.put]
 refine K3 _ ?_
 refine yS fun _ K4 => ?_
 refine yR ?_
 try dsimp only [St.put]
 refine ae rfl (ay rfl rfl rfl (m7) ?_)
 try dsimp only [St.put]
 refine ae rfl ((d9 rfl rfl rfl ((uo3 n)) zG (by dsimp only [St.put]; omega) ?_))
 refine yM rfl rfl ?_
 refine yX rfl rfl rfl rfl ?_
 refine yX rfl rfl rfl rfl ?_
 refine yA rfl rfl ?_
 refine yA rfl rfl ?_
 refine yN ?_
 dsimp only [St.put]
 refine K4 _ ?_
 refine yS fun _ K5 => ?_
 refine yR ?_
 try dsimp only [St.put]
 refine ae rfl (ay rfl rfl rfl (m7) ?_)
 try dsimp only [St.put]
 refine ae rfl ((d9 rfl rfl rfl ((uoz n)) zG (by dsimp only [St.put]; omega) ?_))
 refine yM rfl rfl ?_
 refine yX rfl rfl rfl rfl ?_
 refine yX rfl rfl rfl rfl ?_
 try dsimp only [St.put]
 refine ae rfl (dx rfl ?_)
 try dsimp only [St.put]
 refine ae rfl (c6 rfl rfl rfl zG rfl rfl (by rfl) ?_)
 refine yA rfl rfl ?_
 refine yN ?_
 dsimp only [St.put]
 refine K5 _ ?_
 refine gg (i := 7) rfl zG zC ?_
 dsimp only
 refine yS fun _ K6 => ?_
 refine yR ?_
 try dsimp only [St.put]
 refine ae rfl (ay rfl rfl rfl (m7) ?_)
 try dsimp only [St.put]
 refine ae rfl ((d9 rfl rfl rfl ((uoy n)) zG (by dsimp only [St.put]; omega) ?_))
 refine yM rfl rfl ?_
 refine yX rfl rfl rfl rfl ?_
 refine yX rfl rfl rfl rfl ?_
 try dsimp only [St.put]
 refine ae rfl (dx rfl ?_)
 try dsimp only [St.put]
 refine ae rfl (c6 rfl rfl rfl zG rfl rfl (by rfl) ?_)
 refine yA rfl rfl ?_
 refine yN ?_
 dsimp only [St.put]
 refine K6 _ ?_
 refine gg (i := 9) rfl zG zC ?_
 dsimp only
 refine yS fun _ K7 => ?_
 refine yR ?_
 try dsimp only [St.put]
 refine ae rfl (ay rfl rfl rfl (m7) ?_)
 try dsimp only [St.put]
 refine ae rfl ((d9 rfl rfl rfl ((uox n)) zG (by dsimp only [St.put]; omega) ?_))
 refine yM rfl rfl ?_
 refine yX rfl rfl rfl rfl ?_
 refine yX rfl rfl rfl rfl ?_
 try dsimp only [St.put]
 refine ae rfl (dx rfl ?_)
 try dsimp only [St.put]
 refine ae rfl (c6 rfl rfl rfl zG rfl rfl (by rfl) ?_)
 refine yA rfl rfl ?_
 refine yN ?_
 dsimp only [St.put]
 refine K7 _ ?_
 refine gg (i := 11) rfl zG zC ?_
 dsimp only
 refine yS fun _ K8 => ?_
 refine yR ?_
 try dsimp only [St.put]
 refine ae rfl (ay rfl rfl rfl (m7) ?_)
 try dsimp only [St.put]
 refine ae rfl ((d9 rfl rfl rfl ((uov n)) zG (by dsimp only [St.put]; omega) ?_))
 refine yM rfl rfl ?_
 refine yX rfl rfl rfl rfl ?_
 refine yX rfl rfl rfl rfl ?_
 refine yA rfl rfl ?_
 refine yA rfl rfl ?_
 refine yN ?_
 dsimp only [St.put]
 refine K8 _ ?_
 refine yS fun _ K9 => ?_
 refine yR ?_
 try dsimp only [St.put]
 refine ae rfl (ay rfl rfl rfl (m7) ?_)
 try dsimp only [St.put]
 refine ae rfl ((d9 rfl rfl rfl ((alWhy n)) zG (by dsimp only [St.put]; omega) ?_))
 refine yM rfl rfl ?_
 refine yX rfl rfl rfl rfl ?_
 refine yX rfl rfl rfl rfl ?_
 refine yX rfl rfl rfl rfl ?_
 refine yA rfl rfl ?_
 refine yA rfl rfl ?_
 refine yA rfl rfl ?_
 refine yN ?_
 dsimp only [St.put]
 refine K9 _ ?_
 refine yS fun _ K10 => ?_
 refine cb 18 ?_
 refine zQ ?_
 refine ct G zX ?_
 dsimp only
 refine yR ?_
 refine yM rfl rfl ?_
 refine aa rfl (eo (ff rfl rfl rfl) (decide_eq_true (by omega))) ?_
 refine yM rfl rfl ?_
 refine yM rfl rfl ?_
 ((first | refine aa rfl ((eo (c := true) (ff rfl rfl rfl) (decide_eq_true rfl))) ?_ | refine ah rfl rfl rfl rfl ((eo (c := true) (ff rfl rfl rfl) (decide_eq_true rfl))) ?_ | refine dd rfl rfl rfl rfl ((eo (c := true) (ff rfl rfl rfl) (decide_eq_true rfl))) ?_ | refine ul rfl rfl rfl ((eo (c := true) (ff rfl rfl rfl) (decide_eq_true rfl))) ?_))
 refine aa rfl (bu rfl rfl (by constructor)) ?_
 refine yM rfl rfl ?_
 refine yM rfl rfl ?_
 refine aa rfl (eo (ff rfl rfl rfl) (decide_eq_true (by omega))) ?_
 refine aa rfl (bu rfl rfl (by constructor)) ?_
 refine yM rfl rfl ?_
 refine yM rfl rfl ?_
 try dsimp only [St.put]
 refine ae rfl (ay rfl rfl rfl (p9 _ _ _) ?_)
 try dsimp only [St.put]
 refine ae rfl (ay rfl rfl rfl (p9 _ _ _) ?_)
 try dsimp only [St.put]
 refine ae rfl (dp rfl rfl rfl (by decide) (by decide) zR (by decide) ?_)
 try dsimp only [St.put]
 refine ae rfl (ay rfl rfl rfl (t6 [⟨0, 0, 0⟩, ⟨0, 0, 3⟩]) ?_)
 try dsimp only [St.put]
 refine ae rfl (ay rfl rfl rfl (uds [⟨0, 0, 0⟩, ⟨0, 0, 3⟩]) ?_)
 refine aa rfl (bu rfl rfl (by constructor)) ?_
 refine yM rfl rfl ?_
 refine yM rfl rfl ?_
 refine aa rfl (eo (ff rfl rfl rfl) (decide_eq_true (by omega))) ?_
 refine aa rfl (bu rfl rfl (by constructor)) ?_
 refine yM rfl rfl ?_
 refine yM rfl rfl ?_
 try dsimp only [St.put]
 refine ae rfl (ay rfl rfl rfl (p9 _ _ _) ?_)
 try dsimp only [St.put]
 refine ae rfl (dp rfl rfl rfl (by decide) (by decide) zR (by decide) ?_)
 try dsimp only [St.put]
 refine ae rfl (ay rfl rfl rfl (t6 [⟨0, 0, 0⟩]) ?_)
 try dsimp only [St.put]
 refine ae rfl (ay rfl rfl rfl (uds [⟨0, 0, 0⟩]) ?_)
 refine aa rfl (bu rfl rfl (by constructor)) ?_
 refine yM rfl rfl ?_
 try dsimp only [St.put]
 refine ae rfl ((d9 rfl rfl rfl ((uo2 n)) zG (by dsimp only [St.put]; omega) ?_))
 refine aa rfl (bu rfl rfl (by constructor)) ?_
 refine yM rfl rfl ?_
 refine yM rfl rfl ?_
 refine aa rfl (eo (ff rfl rfl rfl) (decide_eq_true (by omega))) ?_
 refine aa rfl (bu rfl rfl (by constructor)) ?_
 refine yM rfl rfl ?_
 refine yE rfl rfl rfl ?_
 refine aa rfl (g7 rfl rfl) ?_
 ((first | refine aa rfl ((eo (c := true) (ky (x := (⟨2, 2⟩ : bn)) (y := (⟨2, 2⟩ : bn)) rfl rfl rfl) (decide_eq_true rfl))) ?_ | refine ah rfl rfl rfl rfl ((eo (c := true) (ky (x := (⟨2, 2⟩ : bn)) (y := (⟨2, 2⟩ : bn)) rfl rfl rfl) (decide_eq_true rfl))) ?_ | refine dd rfl rfl rfl rfl ((eo (c := true) (ky (x := (⟨2, 2⟩ : bn)) (y := (⟨2, 2⟩ : bn)) rfl rfl rfl) (decide_eq_true rfl))) ?_ | refine ul rfl rfl rfl ((eo (c := true) (ky (x := (⟨2, 2⟩ : bn)) (y := (⟨2, 2⟩ : bn)) rfl rfl rfl) (decide_eq_true rfl))) ?_))
 refine aa rfl (bu rfl rfl (by constructor)) ?_
 refine yM rfl rfl ?_
 refine yM rfl rfl ?_
 refine aa rfl (eo (ff rfl rfl rfl) (decide_eq_true (by omega))) ?_
 refine aa rfl (bu rfl rfl (by constructor)) ?_
 refine yM rfl rfl ?_
 refine yE rfl rfl rfl ?_
 refine aa rfl (g7 rfl rfl) ?_
 ((first | refine aa rfl ((eo (c := true) (ky (x := (⟨0, 1⟩ : bn)) (y := (⟨0, 1⟩ : bn)) rfl rfl rfl) (decide_eq_true rfl))) ?_ | refine ah rfl rfl rfl rfl ((eo (c := true) (ky (x := (⟨0, 1⟩ : bn)) (y := (⟨0, 1⟩ : bn)) rfl rfl rfl) (decide_eq_true rfl))) ?_ | refine dd rfl rfl rfl rfl ((eo (c := true) (ky (x := (⟨0, 1⟩ : bn)) (y := (⟨0, 1⟩ : bn)) rfl rfl rfl) (decide_eq_true rfl))) ?_ | refine ul rfl rfl rfl ((eo (c := true) (ky (x := (⟨0, 1⟩ : bn)) (y := (⟨0, 1⟩ : bn)) rfl rfl rfl) (decide_eq_true rfl))) ?_))
 refine aa rfl (bu rfl rfl (by constructor)) ?_
 refine yM rfl rfl ?_
 refine yM rfl rfl ?_
 refine aa rfl (eo (ff rfl rfl rfl) (decide_eq_true (by omega))) ?_
 refine aa rfl (bu rfl rfl (by constructor)) ?_
 refine yM rfl rfl ?_
 refine yE rfl rfl rfl ?_
 refine aa rfl (g7 rfl rfl) ?_
 ((first | refine aa rfl ((eo (c := true) (ky (x := (⟨0, 1⟩ : bn)) (y := (⟨0, 1⟩ : bn)) rfl rfl rfl) (decide_eq_true rfl))) ?_ | refine ah rfl rfl rfl rfl ((eo (c := true) (ky (x := (⟨0, 1⟩ : bn)) (y := (⟨0, 1⟩ : bn)) rfl rfl rfl) (decide_eq_true rfl))) ?_ | refine dd rfl rfl rfl rfl ((eo (c := true) (ky (x := (⟨0, 1⟩ : bn)) (y := (⟨0, 1⟩ : bn)) rfl rfl rfl) (decide_eq_true rfl))) ?_ | refine ul rfl rfl rfl ((eo (c := true) (ky (x := (⟨0, 1⟩ : bn)) (y := (⟨0, 1⟩ : bn)) rfl rfl rfl) (decide_eq_true rfl))) ?_))
 refine aa rfl (bu rfl rfl (by constructor)) ?_
 refine yM rfl rfl ?_
 refine yM rfl rfl ?_
 refine aa rfl (eo (ff rfl rfl rfl) (decide_eq_true (by omega))) ?_
 refine aa rfl (bu rfl rfl (by constructor)) ?_
 refine yM rfl rfl ?_
 refine yM rfl rfl ?_
 try dsimp only [St.put]
 refine ae rfl (dp rfl rfl rfl (by decide) (by decide) zR (by decide) ?_)
 try dsimp only [St.put]
 refine ae rfl (ay rfl rfl rfl (udt [1, 0] (by decide)) ?_)
 refine aa rfl (bu rfl rfl (by constructor)) ?_
 refine yM rfl rfl ?_
 refine yM rfl rfl ?_
 refine aa rfl (eo (ff rfl rfl rfl) (decide_eq_true (by omega))) ?_
 refine aa rfl (bu rfl rfl (by constructor)) ?_
 refine yM rfl rfl ?_
 refine yM rfl rfl ?_
 try dsimp only [St.put]
 refine ae rfl (dp rfl rfl rfl (by decide) (by decide) zR (by decide) ?_)
 try dsimp only [St.put]
 refine ae rfl (ay rfl rfl rfl (udt [0] (by decide)) ?_)
 refine aa rfl (bu rfl rfl (by constructor)) ?_
 refine yM rfl rfl ?_
 refine yM rfl rfl ?_
 refine aa rfl (bd rfl rfl (List.length_map _)) ?_
 ((first | refine aa rfl ((eo (c := true) (ff rfl rfl rfl) (decide_eq_true rfl))) ?_ | refine ah rfl rfl rfl rfl ((eo (c := true) (ff rfl rfl rfl) (decide_eq_true rfl))) ?_ | refine dd rfl rfl rfl rfl ((eo (c := true) (ff rfl rfl rfl) (decide_eq_true rfl))) ?_ | refine ul rfl rfl rfl ((eo (c := true) (ff rfl rfl rfl) (decide_eq_true rfl))) ?_))
 refine aa rfl (bu rfl rfl (by constructor)) ?_
 refine yM rfl rfl ?_
 try dsimp only [St.put]
 refine ae rfl (dp rfl rfl rfl (by decide) (by decide) zR (by decide) ?_)
 try dsimp only [St.put]
 refine ae rfl ((d9 rfl rfl rfl ((uo1 n)) zG (by dsimp only [St.put]; omega) ?_))
 refine aa rfl (bu rfl rfl (by constructor)) ?_
 refine yA rfl rfl ?_
 refine yN ?_
 dsimp only [St.put]
 refine K10 _ ?_
 refine ar ?_
 refine ba rfl (by constructor) zN zS ?_
 rfl
theorem umc (p : af) : Pure Tryz.prog 22 [val p] (.v (.bool (qv p))) := by
 refine co Tryz.func22 rfl (fun m => .v) fun G nx => ?_
 simp only [Tryz.ntmps22, List.length_cons, List.length_nil, Nat.reduceAdd, Nat.reduceSub]
 refine bq fun hlt => ?_
 dsimp only at hlt
 refine yS fun _ K1 => ?_
 refine yR ?_
 try dsimp only [St.put]
 refine yB rfl rfl rfl ?_
 refine yA rfl rfl ?_
 refine yN ?_
 dsimp only [St.put]
 refine K1 _ ?_
 refine yS fun _ K2 => ?_
 refine yR ?_
 refine yE rfl rfl rfl ?_
 try dsimp only [St.put]
 refine ae rfl (ay rfl rfl rfl (ujv p) ?_)
 refine aa rfl (dl rfl rfl) ?_
 refine yM rfl rfl ?_
 refine ed (fun hs => ?_) (fun hs => ?_)
 ·have h1 : n9 p = false := by simpa using hs
  refine yE rfl rfl rfl ?_
  try dsimp only [St.put]
  refine ae rfl (ay rfl rfl rfl (ujw p) ?_)
  refine aa rfl (ff rfl rfl rfl) ?_
  refine aa rfl (bu rfl rfl (by constructor)) ?_
  refine yA rfl rfl ?_
  refine yN ?_
  dsimp only [St.put]
  refine K2 _ ?_
  refine ar ?_
  refine ba rfl (by constructor) zN zS ?_
  exact vb (by simp [qv, h1])
 have h1 : n9 p = true := by simpa using hs
 refine yK rfl ?_
 refine yK rfl ?_
 refine yK rfl ?_
 refine aa rfl (cd rfl rfl (by constructor)) ?_
 refine yA rfl rfl ?_
 refine yN ?_
 dsimp only [St.put]
 refine K2 _ ?_
 refine ar ?_
 refine ba rfl (by constructor) zN zS ?_
 exact vb (by simp [qv, h1])
end Go.Proofs.YtbbdginipiljdaaGreatDoor
namespace Go.AB
open Go Go.RowKit
open Go.AB.Enc (cells)
open Go.PB (aw ai PlaceD bc bg bf bp aq af ci bn)
end Go.AB
namespace Go.AB
open Go Go.RowKit
open Go.AB.Enc (cells)
open Go.PB (aw ai PlaceD bc bg bf bp aq af ci bn cx cz)
theorem vy {P : Program} {o : Oper} {st : St} {xt yt : TypeId} {x y : Operand} {m n r : Int} (hr : m % n = r) (ho : o.op = .binOp .rem xt x y yt) (hx : evC st x = .v (.int .i64 m)) (hy : evC st y = .v (.int .i64 n)) (hm : 0 ≤ m ∧ m ≤ 9223372036854775807) (hn : 0 < n) : NStep P o st (.v (.int .i64 r)) := hr ▸ n_rem ho hx hy hm hn
theorem uj3 {α : Type} {l : List α} {a : Int} (ha : 0 ≤ a) (h : l.length ≠ 0) : ∃ (i : Nat) (x : α), a % (l.length : Int) = (i : Int) ∧ l[i]? = some x := by
 have h2 := Int.emod_nonneg a (show (l.length : Int) ≠ 0 by omega)
 have h3 := Int.emod_lt_of_pos a (show (0 : Int) < (l.length : Int) by omega)
 have hlt : (a % (l.length : Int)).toNat < l.length := by omega
 exact ⟨_, l[(a % (l.length : Int)).toNat], by omega, List.getElem?_eq_getElem hlt⟩
section
variable {p : af} {i : Nat} {x : aq}
theorem uaj (h : cj p = 0) (hx : p.pages[i]? = some x) : ec p (i : Int) = 0 := by
 have := (List.getElem?_eq_some_iff.1 hx).1
 unfold ec
 rw [decide_eq_true h, cond_true, inB_true.2 (by omega)]
 rfl
theorem uj4 (hx : p.pages[i]? = some x) : l7 p (i : Int) = x := by
 unfold l7
 rw [Int.toNat_natCast, hx]; rfl
end
end Go.AB
namespace Go.Proofs.YtbbdginipiljdaaGreatDoor
set_option maxRecDepth 10000
open Go Go.RowKit Go.AB
open Go.AB.Enc (cells)
open Go.PB (aw ai PlaceD bc bg bf bp aq af ci bn cx cz)
section
variable {p : af} {i : Nat} {x : aq}
theorem umd (n : Nat) (h : cj p = 0) (hx : p.pages[i]? = some x) : ez n er Tryz.prog 64 [val p, .v (.int .i64 (i : Int))] (.tup [lst (dh p.text x), .v (.int .i64 0)]) := by
 have := uci n p (i : Int)
 rwa [uaj h hx, show ph p (i : Int) = dh p.text x by unfold ph; rw [uaj h hx, uj4 hx]; rfl] at this
end
end Go.Proofs.YtbbdginipiljdaaGreatDoor
namespace Go.AB
open Go Go.RowKit
open Go.AB.Enc (cells)
open Go.PB (aw ai PlaceD bc bg bf bp aq af ci bn cx cz)
theorem wj (g : Nat → Int) : ∀ n, (bh n g).sum = sm n g
 | 0 => rfl
 | n + 1 => by rw [sl, List.sum_append, wj g n]; simp [sm]
theorem ua3 {l : List Int} {k : Nat} {z : Int} (h : l[k]? = some z) : (l.take (k + 1)).sum = (l.take k).sum + z := by
 rw [List.take_add_one, h, Option.toList_some, List.sum_append]; simp
theorem uz {l : List Int} {m : Int} (h0 : 0 ≤ m) (h : ∀ z ∈ l, -m ≤ z ∧ z ≤ m) : ∀ k, k ≤ l.length → -(k * m) ≤ (l.take k).sum ∧ (l.take k).sum ≤ k * m
 | 0, _ => by simp
 | k + 1, hk => by
  have ih := uz h0 h k (by omega)
  have e := List.getElem?_eq_getElem (show k < l.length by omega)
  have hz := h _ (List.mem_of_getElem? e)
  rw [ua3 e]
  have e2 : ((k + 1 : Nat) : Int) * m = (k : Int) * m + m := by rw [Int.natCast_add, Int.add_mul]; simp
  omega
theorem ux {p : af} (h : dz p) (j : Nat) : 0 ≤ c7 p j ∧ c7 p j ≤ 600 := by
 refine ⟨xp p j, ?_⟩
 have hq := lh h.text
 unfold c7 mx
 cases p.pages[j]? with
 | none => show (0 : Int) ≤ 600; omega
 | some x => have := rp p.text x; show ((dh p.text x).length : Int) ≤ 600; omega
theorem xx {n : Nat} {g : Nat → Int} {z : Int} (h : z ∈ bh n g) : ∃ i, i < n ∧ z = g i := by
 unfold bh at h
 obtain ⟨i, h1, h2⟩ := List.mem_map.1 h
 exact ⟨i, List.mem_range.1 h1, h2.symm⟩
theorem umv {n i : Nat} {g : Nat → Int} (h : i < n) : (cp (bh n g))[i * 1]? = some (.v (.int .i64 (g i))) := rq (by rw [Nat.mul_one]; exact i2 g h)
end Go.AB
namespace Go.Proofs.YtbbdginipiljdaaGreatDoor
set_option maxRecDepth 10000
open Go Go.RowKit Go.AB
open Go.AB.Enc (cells)
open Go.PB (aw ai PlaceD bc bg bf bp aq af ci bn cx cz)
theorem zd (l : List Int) (hl : l.length ≤ 100) (hb : ∀ z ∈ l, -1000000000 ≤ z ∧ z ≤ 1000000000) : Pure Tryz.prog 30 [lst l] (.v (.int .i64 l.sum)) := by
 refine co Tryz.func30 rfl (fun m => .v) fun G nx => ?_
 simp only [Tryz.ntmps30, List.length_cons, List.length_nil, Nat.reduceAdd, Nat.reduceSub]
 refine bq fun hlt => ?_
 dsimp only at hlt
 refine yS fun _ K1 => ?_
 refine yR ?_
 refine yA rfl rfl ?_
 refine yN ?_
 dsimp only [St.put]
 refine K1 _ ?_
 refine yS fun _ K2 => ?_
 refine yR ?_
 refine yA rfl rfl ?_
 refine yN ?_
 dsimp only [St.put]
 refine K2 _ ?_
 refine yS fun _ K3 => ?_
 refine yS fun _ K4 => ?_
 refine yR ?_
 refine yM rfl rfl ?_
 refine aa rfl (bd rfl rfl (List.length_map _)) ?_
 refine yM rfl rfl ?_
 refine yN ?_
 dsimp only [St.put]
 refine K4 _ ?_
 refine az ?_
 refine cb 9 ?_
 refine zQ ?_
 refine ct (G) zX ?_
 dsimp only
 refine cr (X := Nat) (fun k => k ≤ l.length) (fun k => l.length - k) (fun k => [(3, .v (.int .i64 (l.take k).sum)), (5, .any), (8, .v (.int .i64 (k : Int)))]) (fun k G' => G') 0 rfl ?_ ?_ (fun _ _ h => h) ?_ ?_ ?_
 ·exact Nat.zero_le _
 ·exact zF
 ·rintro k hI
  exact zL
 ·exact fun _ _ _ _ h => .inl h
 rintro k hI
 dsimp only at hI ⊢
 refine yS fun _ K5 => ?_
 refine yR ?_
 refine aa rfl (ca rfl rfl rfl) ?_
 refine yN ?_
 dsimp only [St.put]
 refine K5 _ ?_
 refine yS fun _ K6 => ?_
 refine am rfl (fun hc => ?_) (fun hc => ?_)
 ·replace hc := of_decide_eq_true hc
  obtain ⟨z, hz⟩ : ∃ z, l[k]? = some z := cw (by omega)
  have h1 := uz (m := 1000000000) (by omega) hb k (by omega)
  have h2 := hb z (fu hz)
  refine av ?_
  refine K6 _ ?_
  refine yS fun _ K7 => ?_
  refine az ?_
  refine yS fun _ K8 => ?_
  refine yR ?_
  refine aa rfl (bj rfl rfl rfl rfl (bi (by assumption)) (Enc.len _)) ?_
  refine yL rfl rfl rfl ?_
  refine yA rfl rfl ?_
  refine yN ?_
  dsimp only [St.put]
  refine K8 _ ?_
  refine yR ?_
  refine yM rfl rfl ?_
  refine yM rfl rfl ?_
  refine aa rfl (bl rfl rfl rfl (by omega)) ?_
  refine yA rfl rfl ?_
  refine yN ?_
  dsimp only [St.put]
  refine K7 _ ?_
  refine yR ?_
  refine aa rfl (bl rfl rfl rfl (by omega)) ?_
  refine yM rfl rfl ?_
  refine yN ?_
  dsimp only [St.put]
  rw [← ua3 hz]
  exact ⟨k + 1, by omega, by omega, ⟨⟨rfl, rfl⟩, zF, zB, zN, zX⟩⟩
 replace hc := of_decide_eq_false hc
 refine cn ?_
 refine K3 _ ?_
 refine yS fun _ K9 => ?_
 refine yR ?_
 refine yM rfl rfl ?_
 refine yA rfl rfl ?_
 refine yN ?_
 dsimp only [St.put]
 refine K9 _ ?_
 refine ar ?_
 refine ba rfl (by constructor) zN zS ?_
 exact vi (by rw [f5 (show l.length ≤ k by omega)])
theorem udu (n : Nat) (p : af) (h : cj p = 0) : ez n er Tryz.prog 27 [val p] (.tup [lst (bh p.pages.length (c7 p)), .v (.bool true)]) := fun G nx hF hnx => by
 refine ib (G) (nx) Tryz.func27 rfl (.tup (bz (br _ _) (bz .v c5))) zN (fun hlt => zH) ?_
 simp only [Tryz.ntmps27, List.length_cons, List.length_nil, Nat.reduceAdd, Nat.reduceSub]
 refine bq fun hlt => ?_
 dsimp only at hlt
 have hnp := (lx h).1.np
 refine yS fun _ K1 => ?_
 refine yR ?_
 try dsimp only [St.put]
 refine yB rfl rfl rfl ?_
 refine yA rfl rfl ?_
 refine yA rfl rfl ?_
 refine yN ?_
 dsimp only [St.put]
 refine K1 _ ?_
 refine yS fun _ K2 => ?_
 refine yR ?_
 refine yA rfl rfl ?_
 refine yN ?_
 dsimp only [St.put]
 refine K2 _ ?_
 refine nh 4 3 1 rfl (by decide) ?_
 dsimp only [List.set_cons_zero, List.set_cons_succ]
 refine yS fun _ K3 => ?_
 refine yS fun _ K4 => ?_
 refine yR ?_
 refine yF rfl rfl rfl rfl ?_
 refine yL rfl rfl rfl ?_
 refine aa rfl (bd rfl rfl (List.length_map _)) ?_
 refine yM rfl rfl ?_
 refine yN ?_
 dsimp only [St.put]
 refine K4 _ ?_
 refine az ?_
 refine cb 12 ?_
 refine zQ ?_
 refine ct ((ak G nx (.tip (bh 0 (c7 p)).length 3 1))) zX ?_
 dsimp only
 refine cr (X := Nat) (fun k => k ≤ p.pages.length) (fun k => p.pages.length - k) (fun k => [(4, .list ((bh k (c7 p)).map cells) (.tip nx)), (5, .any), (6, .any), (7, .any), (11, .v (.int .i64 (k : Int)))]) (fun k G' => (ak G nx (.tip (bh k (c7 p)).length 3 1))) 0 rfl ?_ ?_ ?_ ?_ ?_ ?_
 ·exact Nat.zero_le _
 ·exact zF
 ·exact zX
 ·rintro k hI
  exact zL
 ·rintro k hI
  exact zH
 rintro k hI
 dsimp only at hI ⊢
 refine yS fun _ K5 => ?_
 refine yR ?_
 refine aa rfl (ca rfl rfl rfl) ?_
 refine yN ?_
 dsimp only [St.put]
 refine K5 _ ?_
 refine yS fun _ K6 => ?_
 refine am rfl (fun hc => ?_) (fun hc => ?_)
 ·replace hc := of_decide_eq_true hc
  obtain ⟨x, hx⟩ : ∃ x, p.pages[k]? = some x := cw (by omega)
  have e := sl k (c7 p)
  rw [show c7 p k = ((dh p.text x).length : Int) from o6 hx _] at e
  have hll := gu k (c7 p)
  refine av ?_
  refine K6 _ ?_
  refine yS fun _ K7 => ?_
  refine az ?_
  refine yS fun _ K8 => ?_
  refine yR ?_
  refine yM rfl rfl ?_
  refine yA rfl rfl ?_
  refine yN ?_
  dsimp only [St.put]
  refine K8 _ ?_
  refine yS fun _ K9 => ?_
  refine yR ?_
  refine yE rfl rfl rfl ?_
  refine yM rfl rfl ?_
  try dsimp only [St.put]
  refine ae rfl ((d9 rfl rfl rfl ((umd n h hx)) zG (by dsimp only [St.put]; omega) ?_))
  refine yM rfl rfl ?_
  refine yX rfl rfl rfl rfl ?_
  refine yX rfl rfl rfl rfl ?_
  refine yA rfl rfl ?_
  refine yA rfl rfl ?_
  refine yN ?_
  dsimp only [St.put]
  refine K9 _ ?_
  refine yS fun _ K10 => ?_
  refine yS fun _ K11 => ?_
  refine yR ?_
  refine yM rfl rfl ?_
  refine aa rfl (eo (c := false) (fb rfl rfl rfl) (vx rfl)) ?_
  refine yN ?_
  dsimp only [St.put]
  refine K11 _ ?_
  refine am rfl (fun h => by cases h) (fun _ => ?_)
  refine av ?_
  refine K10 _ ?_
  refine yR ?_
  refine yM rfl rfl ?_
  refine yM rfl rfl ?_
  refine aa rfl (bd rfl rfl (List.length_map _)) ?_
  try dsimp only [St.put]
  refine ae rfl (dp rfl rfl rfl (by decide) (by decide) zR (by decide) ?_)
  try dsimp only [St.put]
  refine ae rfl (jr ([((dh p.text x).length : Int)]) rfl rfl zG zE rfl rfl zA ?_ zA)
  refine yA rfl rfl ?_
  refine yN ?_
  dsimp only [St.put]
  refine K7 _ ?_
  refine yR ?_
  refine aa rfl (bl rfl rfl rfl (by omega)) ?_
  refine yM rfl rfl ?_
  refine yN ?_
  dsimp only [St.put]
  rw [← e]
  exact ⟨k + 1, by omega, by omega, ⟨⟨rfl, rfl⟩, zF, zB, zN, zX⟩⟩
 replace hc := of_decide_eq_false hc
 obtain rfl : k = p.pages.length := by omega
 refine cn ?_
 refine K3 _ ?_
 refine yS fun _ K12 => ?_
 refine yR ?_
 refine yM rfl rfl ?_
 refine yA rfl rfl ?_
 refine yA rfl rfl ?_
 refine yN ?_
 dsimp only [St.put]
 refine K12 _ ?_
 refine ar ?_
 refine gz rfl (d7 (by constructor)) (d7 (by constructor)) zN zS ?_ ?_
 ·exact zW
 exact zW
theorem zc (p : af) (h : dz p) (es : List Int) (hl : es.length ≤ 100) {b : Bool} (hb : jf p es = b) : Pure Tryz.prog 28 [val p, lst es] (.v (.bool b)) := hb ▸ ujt p es h (by omega)
theorem uma (n : Nat) (p : af) (h : fa p (cj p) = 0) : ez n er Tryz.prog 15 [val p] (.tup [lst (bh p.pages.length (fl p)), .v (.int .i64 0)]) := by
 have := yk n p
 rwa [h, show nk p = bh p.pages.length (fl p) by unfold nk; rw [h]; rfl] at this
theorem umb (n : Nat) (p : af) (h : fa p (cj p) = 0) {i : Nat} {x : aq} (hx : p.pages[i]? = some x) : ez n er Tryz.prog 11 [val p, .v (.int .i64 (i : Int))] (.tup [val (⟨0, (bk p).alone (cm p) (cy p) i⟩ : bn), .v (.int .i64 0)]) := by
 have hC := (ri h).1
 have hA : fa p (ec p (i : Int)) = 0 := by
  rw [hC] at h
  rw [uaj hC hx]
  exact h
 have := uce n p (i : Int)
 rwa [hA, show n1 p (i : Int) = ⟨0, (bk p).alone (cm p) (cy p) i⟩ by unfold n1; rw [hA, Int.toNat_natCast]; rfl] at this
end Go.Proofs.YtbbdginipiljdaaGreatDoor
namespace Go.AB
open Go Go.RowKit
open Go.AB.Enc (cells)
open Go.PB (aw ai PlaceD bc bg bf bp aq af ci bn cx cz)
section
/-- one number put in a place -/
noncomputable def gd (x : Nat → Int) (k : Nat) (v : Int) (j : Nat) : Int := bif decide (j = k) then v else x j
theorem uis (x : Nat → Int) (k : Nat) (v : Int) : gd x k v k = v := by unfold gd; rw [decide_eq_true rfl]; rfl
theorem ubh (x : Nat → Int) (k : Nat) (v w : Int) : gd (gd x k v) k w = gd x k w := by
 funext j
 unfold gd
 cases decide (j = k) <;> rfl
/-- what is told, and more -/
noncomputable def eg (p : af) (x : Nat → Int) (j : Nat) : Int := c7 p j + x j
theorem uc6 (p : af) : eg p (fun _ => 0) = c7 p := by funext j; simp [eg]
theorem v6 (p : af) (x : Nat → Int) (k : Nat) (v : Int) : (fun j => bif decide (j = k) then c7 p k + v else eg p x j) = eg p (gd x k v) := by
 funext j
 unfold eg gd
 by_cases e : j = k
 ·subst e; rw [decide_eq_true rfl]; rfl
 ·rw [decide_eq_false e]; rfl
/-- .. is a truth, where it may be -/
noncomputable def li (p : af) (x : Nat → Int) : Prop := (bk p).Feas (cm p) (cy p) x
theorem w5 {p : af} (h : dz p) (x : Nat → Int) : jf p (bh p.pages.length (eg p x)) = true ↔ li p x := uaz h x
theorem um1 {p : af} (h : dz p) (ht : g4 p = true) : li p fun _ => 0 := by
 rw [← w5 h, uc6, uhm h]
 exact ht
theorem ueh {p : af} {x : Nat → Int} (h : li p x) (k : Nat) : li p (gd x k 0) := by
 refine Net.Feas.down h fun j hj => ?_
 have := (h.page j hj).1
 unfold gd
 cases decide (j = k)
 ·exact ⟨this, Int.le_refl _⟩
 ·exact ⟨Int.le_refl _, this⟩
theorem um2 {p : af} (h : dz p) {x : Nat → Int} (hx : li p x) {j : Nat} (hj : j < p.pages.length) : 0 ≤ x j ∧ x j ≤ 600 := by
 have h1 := hx.page j hj
 have h2 := xa h j
 exact ⟨h1.1, Int.le_trans h1.2 h2.2⟩
theorem uhz (p : af) (x : Nat → Int) : (bh p.pages.length (eg p x)).sum - (bh p.pages.length (c7 p)).sum = sm p.pages.length x := by
 rw [wj, wj]
 have := nm p.pages.length (c7 p) x
 unfold eg
 omega
theorem uhx {p : af} (h : dz p) (ht : g4 p = true) : (bh p.pages.length (fl p)).sum = qr p := by
 rw [wj]
 exact Net.worst_sum (qz h) (qp ht) fun j _ => qf h j
theorem uhy {p : af} (h : dz p) {x : Nat → Int} (hx : li p x) : sm p.pages.length x ≤ qr p := Net.feas_most (qz h) hx
theorem ugv {p : af} (h : dz p) (ht : g4 p = true) {x : Nat → Int} (hx : li p x) (hs : sm p.pages.length x = qr p) {i : Nat} (hi : i < p.pages.length) (he : ∀ j, j < i → x j = fl p j) : x i ≤ fl p i := Net.worst_lex (qz h) (qp ht) (fun j _ => qf h j) hx hs hi he
end
end Go.AB
namespace Go.AB
open Go Go.RowKit Go.ChangeShapes Go.WideShapes
end Go.AB
namespace Go.Proofs.YtbbdginipiljdaaGreatDoor
set_option maxRecDepth 10000
open Go.ChangeShapes Go.WideShapes Go.ChangeAt Go.RowKit Go.AB
open Go.AB.Enc (cells)
open Go.PB (aw ai PlaceD bc bg bf)
instance : OpensE Tryz.prog 3 Int := .int (by kernel_rfl)
instance : OpensE Tryz.prog 9 ByteArray := .str (by kernel_rfl)
instance : OpensE Tryz.prog 130 (List ByteArray) := .slice (e := 9) (by kernel_rfl) (by decide)
instance : OpensE Tryz.prog 127 (List (List ByteArray)) := .slice (e := 130) (by kernel_rfl) (by decide)
instance : OpensE Tryz.prog 129 aw := .chap (tI := 3) (tL := 127) (by kernel_rfl)
instance : OpensE Tryz.prog 22 (List aw) := .slice (e := 129) (by kernel_rfl) (by decide)
theorem uhp : jg Tryz.prog 24 [(0, 22, 1)] 1 = true := by kernel_rfl
instance : OpensE Tryz.prog 24 (List aw) := .one (e := 22) uhp
theorem ujx : jg Tryz.prog 61 [(0, 3, 1), (1, 3, 1), (2, 3, 1)] 3 = true := by kernel_rfl
instance : OpensE Tryz.prog 61 PlaceD := .place (tI := 3) ujx
theorem un9 : Tryz.prog.underlying 4 = some .bool := by kernel_rfl
theorem ownZ : ownKnob Tryz.prog.godebug = none := by kernel_rfl
end Go.Proofs.YtbbdginipiljdaaGreatDoor
namespace Go.AB
open Go Go.RowKit Go.ChangeShapes Go.WideShapes
open Go.AB.Enc (cells)
open Go.PB (aw ai PlaceD bc bg bf bp aq af ci bn)
theorem OpensE.reader {P : Program} {t tI : TypeId} [oI : OpensE P tI Int] (h : jg P t [(0, tI, 1), (1, tI, 1)] 2 = true) : OpensE P t bp :=
 .struct (α := bp) h fun w cs hl hp => by
  obtain ⟨a, ha⟩ := hp (0, tI, 1) (by simp) Int inferInstance oI
  obtain ⟨b, hb⟩ := hp (1, tI, 1) (by simp) Int inferInstance oI
  match cs, hl with
  | [u, v], _ => exact ⟨⟨a, b⟩, Rs.cons (Rs.single_inv ha) hb⟩
theorem OpensE.page {P : Program} {t tI tL : TypeId} [oI : OpensE P tI Int] [oL : OpensE P tL (List PlaceD)] (h : jg P t [(0, tI, 1), (1, tI, 1), (2, tI, 1), (3, tI, 1), (4, tL, 1), (5, tL, 1)] 6 = true) : OpensE P t aq :=
 .struct (α := aq) h fun w cs hl hp => by
  obtain ⟨a, ha⟩ := hp (0, tI, 1) (by simp) Int inferInstance oI
  obtain ⟨b, hb⟩ := hp (1, tI, 1) (by simp) Int inferInstance oI
  obtain ⟨c, hc⟩ := hp (2, tI, 1) (by simp) Int inferInstance oI
  obtain ⟨d, hd⟩ := hp (3, tI, 1) (by simp) Int inferInstance oI
  obtain ⟨e, he⟩ := hp (4, tL, 1) (by simp) (List PlaceD) inferInstance oL
  obtain ⟨f, hf⟩ := hp (5, tL, 1) (by simp) (List PlaceD) inferInstance oL
  match cs, hl with
  | [u0, u1, u2, u3, u4, u5], _ => exact ⟨⟨a, b, c, d, e, f⟩, Rs.cons (Rs.single_inv ha) (Rs.cons (Rs.single_inv hb) (Rs.cons (Rs.single_inv hc) (Rs.cons (Rs.single_inv hd) (Rs.cons (Rs.single_inv he) hf))))⟩
theorem OpensE.proofs {P : Program} {t tT tR tP : TypeId} [oT : OpensE P tT (List aw)] [oR : OpensE P tR (List bp)] [oP : OpensE P tP (List aq)] (h : jg P t [(0, tT, 1), (1, tR, 1), (2, tR, 1), (3, tP, 1)] 4 = true) : OpensE P t af :=
 .struct (α := af) h fun w cs hl hp => by
  obtain ⟨a, ha⟩ := hp (0, tT, 1) (by simp) (List aw) inferInstance oT
  obtain ⟨b, hb⟩ := hp (1, tR, 1) (by simp) (List bp) inferInstance oR
  obtain ⟨c, hc⟩ := hp (2, tR, 1) (by simp) (List bp) inferInstance oR
  obtain ⟨d, hd⟩ := hp (3, tP, 1) (by simp) (List aq) inferInstance oP
  match cs, hl with
  | [u0, u1, u2, u3], _ => exact ⟨⟨a, b, c, d⟩, Rs.cons (Rs.single_inv ha) (Rs.cons (Rs.single_inv hb) (Rs.cons (Rs.single_inv hc) hd))⟩
end Go.AB
namespace Go.AB
open Go Go.RowKit Go.ChangeShapes Go.WideShapes
open Go.AB.Enc (cells)
open Go.PB (aw ai PlaceD bp aq af ci bn)
def ud9 (P : Program) (t : TypeId) : Bool := match P.underlying t with | some (.func _ _ _) => true | _ => false
theorem zq {P : Program} {t : TypeId} (h : ud9 P t = true) : ∃ ps rs va, P.underlying t = some (.func ps rs va) := by
 unfold ud9 at h
 split at h
 ·rename_i ps rs va he; exact ⟨ps, rs, va, he⟩
 ·cases h
/-- Functions that lie in a variable's cells. -/
theorem um9 {W : World} {b : Nat} {cs : List C} (hne : cs ≠ []) (hone : ∀ c ∈ cs, c.one = true) (us : Nat → Value) (hc : ∀ j, j < cs.length → W.cell? ⟨b, j, none⟩ = some (us j)) (hr : ∀ j c, cs[j]? = some c → R (ij W) W c (us j)) : R (ij W) W (.elem cs) (.pointer (some ⟨b, 0, none⟩)) := by
 have hl : 0 < cs.length := List.length_pos_iff.2 hne
 refine .elem hne hone (.inr ⟨b, 0, rfl, ?_, fun j hj => by rw [Nat.zero_add]; exact hc j hj⟩) hr
 have := uab (hc (cs.length - 1) (by omega))
 show 0 + cs.length ≤ om W b
 omega
theorem ul8 {P : Program} {f : FuncId} {cs : List C} {v gv : Value} {gc : C} (hp : ez 0 (.fact gv gc) P f cs (.v v)) {w : World} {args : List Value} (hK : R (ij w) w gc gv) (hr : Rs (ij w) w cs args) :
  Calls P f args.toArray w fun e w' => e = .returned v ∧ Below w.heap.size w w' :=
 ul9 (fun G nx hG => by
  intro E w' as' hrs hsg
  exact hp G nx hG (by obtain ⟨t, _⟩ := hsg.obj 0 _ hG; have := hsg.lt 0 _ t; rw [hsg.nx] at this; exact this) E w' as' hrs hsg) hK hr
/-- a cell of a function's type, as it reads -/
theorem ro {P : Program} {W : World} {t : TypeId} {ps rs : Array TypeId} {va : Bool} {v : Value} {b : UInt8} {r : List UInt8} {f0 : FuncId} (hu : P.underlying t = some (.func ps rs va)) (hv : IsFunc v) (hd : veil (funcToken P) t v = .held (b :: r))
  (hone : ((List.range P.funcs.size).filter fun f => (P.funcs[f]?).any (·.name.toUTF8.data.toList == b :: r)) = [f0]) : v = .func (.func f0) #[] #[] :=
 Go.func_of_trod (w := W) (base := 0) (sp := fun _ => true) (fuel := 1) (q := []) hu hone (by
  have := trod_func (enc := funcToken P) hu (W := W) (base := 0) (sp := fun _ => true) hv 0
  rw [hd] at this
  exact this)
end Go.AB
namespace Go.Proofs.YtbbdginipiljdaaGreatDoor
set_option maxRecDepth 10000
open Go.ChangeShapes Go.WideShapes Go.ChangeAt Go.RowKit Go.AB
open Go.AB.Enc (cells)
open Go.PB (aw ai PlaceD bp aq af ci bn)
instance : OpensE Tryz.prog 67 bp := .reader (tI := 3) (by kernel_rfl)
instance : OpensE Tryz.prog 25 (List bp) := .slice (e := 67) (by kernel_rfl) (by decide)
instance : OpensE Tryz.prog 56 (List PlaceD) := .slice (e := 61) (by kernel_rfl) (by decide)
instance : OpensE Tryz.prog 58 aq := .page (tI := 3) (tL := 56) (by kernel_rfl)
instance : OpensE Tryz.prog 26 (List aq) := .slice (e := 58) (by kernel_rfl) (by decide)
theorem ub6 : jg Tryz.prog 28 [(0, 24, 1), (1, 25, 1), (2, 25, 1), (3, 26, 1)] 4 = true := by kernel_rfl
instance : OpensE Tryz.prog 28 af := .proofs (tT := 24) (tR := 25) (tP := 26) ub6
theorem gSides : Tryz.prog.globalNamed "postil/proof.sides" = some 0 := by kernel_rfl
theorem tSides : (Tryz.prog.globals[0]?).map (·.type) = some 141 := by kernel_rfl
theorem uhd : Tryz.prog.underlying 141 = some (.array 2 140) := by kernel_rfl
theorem un6 : Tryz.prog.cellsOf 141 = 6 := by kernel_rfl
theorem ue9 : Tryz.prog.cellsOf 140 = 3 := by kernel_rfl
theorem ubm : jg Tryz.prog 140 [(0, 136, 1), (1, 137, 1), (2, 138, 1)] 3 = true := by kernel_rfl
theorem uek : ∃ ps rs va, Tryz.prog.underlying 136 = some (.func ps rs va) := zq (by kernel_rfl)
theorem uem : ∃ ps rs va, Tryz.prog.underlying 137 = some (.func ps rs va) := zq (by kernel_rfl)
theorem uel : ∃ ps rs va, Tryz.prog.underlying 138 = some (.func ps rs va) := zq (by kernel_rfl)
theorem ubf {W : World} {m : Nat} {cs : List Value} {y : DataW (List UInt8) × List MemPlace} {d0 d1 d2 : DataW (List UInt8)} (hy : y.1 = .agg [d0, d1, d2])
  (h : DataW.trod (funcToken Tryz.prog) Tryz.prog W 0 (fun _ => true) true m 140 cs = some y) : ∃ v0 v1 v2, cs = [v0, v1, v2] ∧ (IsFunc v0 ∧ veil (funcToken Tryz.prog) 136 v0 = d0) ∧ (IsFunc v1 ∧ veil (funcToken Tryz.prog) 137 v1 = d1) ∧ (IsFunc v2 ∧ veil (funcToken Tryz.prog) 138 v2 = d2) := by
 obtain ⟨_, fs, he⟩ := u7 ubm
 obtain ⟨xs, m', _, e1, hl, hlen, hf⟩ := DataW.trod_struct he h
 rw [ue9] at hl
 have hfs : fs.toList.map (fun f => (f.offset, f.type, Tryz.prog.cellsOf f.type)) = [(0, 136, 1), (1, 137, 1), (2, 138, 1)] := by
  have := ubm
  unfold jg at this
  rw [he] at this
  simp only [Bool.and_eq_true, beq_iff_eq] at this
  exact this.1
 obtain ⟨l⟩ := fs
 match l, hfs with
 | [f0, f1, f2], hfs =>
  simp only [List.map_cons, List.map_nil, List.cons.injEq, Prod.mk.injEq, and_true] at hfs
  obtain ⟨⟨a1, a2, a3⟩, ⟨b1, b2, b3⟩, ⟨c1, c2, c3⟩⟩ := hfs
  have h0 := hf 0 f0 rfl
  have h1 := hf 1 f1 rfl
  have h2 := hf 2 f2 rfl
  match cs, hl with
  | [u0, u1, u2], _ =>
   match xs, hlen with
   | [x0, x1, x2], _ =>
    subst e1
    simp only [List.map_cons, List.map_nil, DataW.agg.injEq, List.cons.injEq, and_true] at hy
    rw [a3, a1, a2] at h0
    rw [b3, b1, b2] at h1
    rw [c3, c1, c2] at h2
    obtain ⟨ps, rs, va, hu⟩ := uek
    obtain ⟨ps', rs', va', hu'⟩ := uem
    obtain ⟨ps2, rs2, va2, hu2⟩ := uel
    obtain ⟨v0, q0, q1, q2⟩ := Go.RowKit.func_of_trod hu h0
    obtain ⟨v1, q3, q4, q5⟩ := Go.RowKit.func_of_trod hu' h1
    obtain ⟨v2, q6, q7, q8⟩ := Go.RowKit.func_of_trod hu2 h2
    have e0 : u0 = v0 := by simpa using q0
    have e1 : u1 = v1 := by simpa using q3
    have e2 : u2 = v2 := by simpa using q6
    subst e0; subst e1; subst e2
    have hx0 : x0 = (veil (funcToken Tryz.prog) 136 u0, []) := by simpa using q2
    have hx1 : x1 = (veil (funcToken Tryz.prog) 137 u1, []) := by simpa using q5
    have hx2 : x2 = (veil (funcToken Tryz.prog) 138 u2, []) := by simpa using q8
    subst hx0; subst hx1; subst hx2
    obtain ⟨k0, k1, k2⟩ := hy
    exact ⟨u0, u1, u2, rfl, ⟨q1, k0⟩, ⟨q4, k1⟩, ⟨q7, k2⟩⟩
 | [], hfs => exact absurd hfs (by simp)
 | [_], hfs => exact absurd hfs (by simp)
 | [_, _], hfs => exact absurd hfs (by simp)
 | _ :: _ :: _ :: _ :: _, hfs => exact absurd hfs (by simp)
theorem uig {W : World} (h : funcsAt Tryz.prog W "postil/proof.sides" (.agg [.agg [.iface "func" (.lit (.string [112, 111, 115, 116, 105, 108, 47, 112, 114, 111, 111, 102, 46, 115, 105, 100, 101, 115, 36, 49])), .iface "func" (.lit (.string [112, 111, 115, 116, 105, 108, 47, 112, 114, 111, 111, 102, 46, 115, 105, 100, 101, 115, 36, 50])), .iface "func" (.lit (.string [112, 111, 115, 116, 105, 108, 47, 112, 114, 111, 111, 102, 46, 115, 105, 100, 101, 115, 36, 51]))], .agg [.iface "func" (.lit (.string [112, 111, 115, 116, 105, 108, 47, 112, 114, 111, 111, 102, 46, 115, 105, 100, 101, 115, 36, 52])), .iface "func" (.lit (.string [112, 111, 115, 116, 105, 108, 47, 112, 114, 111, 111, 102, 46, 115, 105, 100, 101, 115, 36, 53])), .iface "func" (.lit (.string [112, 111, 115, 116, 105, 108, 47, 112, 114, 111, 111, 102, 46, 115, 105, 100, 101, 115, 36, 54]))]])) : R (ij W) W (.elem sidL) (.pointer (some ⟨0, 0, none⟩)) := by
 obtain ⟨g, t, cs, fuel, p, hg, ht, hv, hd⟩ := h
 obtain rfl := Option.some.inj (gSides.symm.trans hg)
 obtain rfl := Option.some.inj (tSides.symm.trans ht)
 obtain ⟨xs, m, _, e1, hl, hn, hel⟩ := DataW.trod_array uhd hd
 rw [un6] at hl
 rw [ue9] at hel
 have hcell := fun i => World.var?_cell hg hv i
 obtain ⟨l⟩ := cs
 dsimp only at hl hel hcell
 match l, hl with
 | [u0, u1, u2, u3, u4, u5], _ =>
  match xs, hn with
  | [x0, x1], _ =>
   simp only [Prod.mk.injEq] at e1
   have e2 : (.agg [.agg [.held [112, 111, 115, 116, 105, 108, 47, 112, 114, 111, 111, 102, 46, 115, 105, 100, 101, 115, 36, 49], .held [112, 111, 115, 116, 105, 108, 47, 112, 114, 111, 111, 102, 46, 115, 105, 100, 101, 115, 36, 50], .held [112, 111, 115, 116, 105, 108, 47, 112, 114, 111, 111, 102, 46, 115, 105, 100, 101, 115, 36, 51]], .agg [.held [112, 111, 115, 116, 105, 108, 47, 112, 114, 111, 111, 102, 46, 115, 105, 100, 101, 115, 36, 52], .held [112, 111, 115, 116, 105, 108, 47, 112, 114, 111, 111, 102, 46, 115, 105, 100, 101, 115, 36, 53], .held [112, 111, 115, 116, 105, 108, 47, 112, 114, 111, 111, 102, 46, 115, 105, 100, 101, 115, 36, 54]]] : DataW (List UInt8)) = .agg [x0.1, x1.1] := e1.1
   simp only [DataW.agg.injEq, List.cons.injEq, and_true] at e2
   obtain ⟨a0, a1, a2, q0, ⟨a3, a4⟩, ⟨a5, a6⟩, ⟨a7, a8⟩⟩ := ubf e2.1.symm (hel 0 (by omega))
   obtain ⟨b0, b1, b2, q1, ⟨b3, b4⟩, ⟨b5, b6⟩, ⟨b7, b8⟩⟩ := ubf e2.2.symm (hel 1 (by omega))
   simp only [Nat.zero_mul, Nat.one_mul, List.drop_zero, List.drop_succ_cons, List.take_succ_cons, List.take_zero, List.cons.injEq, and_true] at q0 q1
   obtain ⟨rfl, rfl, rfl⟩ := q0
   obtain ⟨rfl, rfl, rfl⟩ := q1
   obtain ⟨ps, rs, va, hu⟩ := uek
   obtain ⟨ps', rs', va', hu'⟩ := uem
   obtain ⟨ps2, rs2, va2, hu2⟩ := uel
   obtain rfl := ro (W := W) (f0 := 157) hu a3 a4 (by kernel_rfl)
   obtain rfl := ro (W := W) (f0 := 158) hu' a5 a6 (by kernel_rfl)
   obtain rfl := ro (W := W) (f0 := 159) hu2 a7 a8 (by kernel_rfl)
   obtain rfl := ro (W := W) (f0 := 160) hu b3 b4 (by kernel_rfl)
   obtain rfl := ro (W := W) (f0 := 161) hu' b5 b6 (by kernel_rfl)
   obtain rfl := ro (W := W) (f0 := 162) hu2 b7 b8 (by kernel_rfl)
   let L : List Value := [.func (.func 157) #[] #[], .func (.func 158) #[] #[], .func (.func 159) #[] #[], .func (.func 160) #[] #[], .func (.func 161) #[] #[], .func (.func 162) #[] #[]]
   refine um9 (by simp [sidL, nt]) (by intro c hc; simp only [sidL, nt, List.cons_append, List.nil_append, List.mem_cons, List.not_mem_nil, or_false] at hc; rcases hc with rfl | rfl | rfl | rfl | rfl | rfl <;> rfl) (fun j => L.getD j undef) (fun j hj => ?_) (fun j c hc => ?_)
   ·have := hcell j
    have hj' : j < 6 := hj
    rw [this]
    show (L.toArray)[j]? = _
    rw [List.getElem?_toArray, List.getD_eq_getElem?_getD, List.getElem?_eq_getElem (show j < L.length from hj')]
    rfl
   ·match j, hc with
    | 0, hc => cases hc; exact Rs.fn (vs := []) Rs.nil
    | 1, hc => cases hc; exact Rs.fn (vs := []) Rs.nil
    | 2, hc => cases hc; exact Rs.fn (vs := []) Rs.nil
    | 3, hc => cases hc; exact Rs.fn (vs := []) Rs.nil
    | 4, hc => cases hc; exact Rs.fn (vs := []) Rs.nil
    | 5, hc => cases hc; exact Rs.fn (vs := []) Rs.nil
abbrev tz : List (String × DataW Unit) := [("postil/proof.sides", Rows.laid_postil_proof_sides)]
set_option maxRecDepth 100000 in
/-- The door's own heap meets the condition. -/
theorem unk (os : Os) (args : Array Value) : laidMetH Tryz.prog tz ((World.doorLaid Tryz.prog 600 os).forCall (fun _ _ => 0) ⟨#[], args, []⟩).memory :=
 laidMetH_of_parts3 (fuel := 8) (laidMet_of_run' 8 (by kernel_rfl) (by kernel_rfl)) (by kernel_rfl) (by kernel_rfl)
theorem uif {W : World} (h : laidMetH Tryz.prog tz W) : R (ij W) W (.elem sidL) (.pointer (some ⟨0, 0, none⟩)) := uig (h.funcs (List.mem_cons_self ..))
end Go.Proofs.YtbbdginipiljdaaGreatDoor
namespace Go.AB
open Go Go.RowKit Go.ChangeShapes Go.WideShapes
open Go.AB.Enc (cells)
structure U32 where
 v : Int
instance : Enc U32 := ⟨fun x => [.v (.int .u32 x.v)], 1, fun _ => rfl, fun m x c h => by simp at h; subst h; exact .v, fun x c h => by simp at h; subst h; rfl⟩
theorem OpensE.u32 {P : Program} {t : TypeId} (h : wo P t .u32 = true) : OpensE P t U32 where
 n := (wl h).2
 op hx := by
  obtain ⟨n, rfl, _, h2⟩ := DataW.trod_int (wl h).1 hx
  refine ⟨⟨n⟩, Rs.single (.v ?_)⟩
  simp [Lit.wf, IntKind.min, IntKind.max, IntKind.signed, IntKind.bits] at h2
  exact okV_int.2 ⟨by show (0 : Int) ≤ n; omega, by show n ≤ (4294967295 : Int); omega⟩
theorem OpensE.argList {P : Program} {t e : TypeId} {α : Type} [Enc α] [o : OpensE P t (List α)] (h : sq P t e = true) {H : Type} {enc : TypeId × Value → H} {w : World} {base : Nat} {spare : Nat → Bool} {held : Bool} {r : Reach} {b0 : Nat} {v : Value} {d : DataW H} {ps : List MemPlace}
  (hv : Value.okWide P w r b0 t v) (hd : DataW.Trod enc P w base spare held t v d ps) : ∃ a : List α, R (ij w) w (lst a) v := by
 obtain ⟨a, n, c, rfl⟩ := okWide_slice (x7 h).1 hv
 obtain ⟨fuel, hf⟩ := hd
 obtain ⟨xs, hx⟩ := o.op hf
 exact ⟨xs, Rs.single_inv hx⟩
end Go.AB
namespace Go.Proofs.YtbbdginipiljdaaGreatDoor
set_option maxRecDepth 10000
open Go.ChangeShapes Go.WideShapes Go.ChangeAt Go.RowKit Go.AB
open Go.AB.Enc (cells)
instance : OpensE Tryz.prog 126 U32 := .u32 (by kernel_rfl)
instance : OpensE Tryz.prog 52 (List U32) := .slice (e := 126) (by kernel_rfl) (by decide)
theorem uhe : sq Tryz.prog 52 126 = true := by kernel_rfl
end Go.Proofs.YtbbdginipiljdaaGreatDoor
namespace Go.AB
open Go Go.RowKit
open Go.AB.Enc (cells)
open Go.PB (aw ai PlaceD bc bg bf bp aq af ci bn cx cz)
/-- a number of a list with an index, which goes round -/
def lf (by_ : List U32) (i : Nat) : Int := match by_[i % by_.length]? with | some x => x.v | none => 0
theorem uns {l : List U32} {i : Nat} (h : l.length = 0) : lf l i = 0 := by
 rw [List.length_eq_zero_iff.1 h]; rfl
theorem unu {l : List U32} {i : Nat} {x : U32} (h : l[i % l.length]? = some x) : lf l i = x.v := by unfold lf; rw [h]
theorem unv {l : List U32} (h : ∀ x ∈ l, 0 ≤ x.v ∧ x.v ≤ 4294967295) (i : Nat) : 0 ≤ lf l i ∧ lf l i ≤ 4294967295 := by
 unfold lf
 cases hx : l[i % l.length]? with
 | none => exact ⟨Int.le_refl _, by show (0 : Int) ≤ 4294967295; omega⟩
 | some x => exact h x (List.mem_of_getElem? hx)
theorem uhf {l : List U32} (h : (lst l).fit) : ∀ x ∈ l, 0 ≤ x.v ∧ x.v ≤ 4294967295 := fun x hx => by
 have h1 := (fit_lst.1 h).2 x hx (.v (.int .u32 x.v)) (List.mem_cons_self ..)
 exact okV_int.1 (fit_v.1 h1)
theorem uc7 {p : af} (h : dz p) {x : Nat → Int} (hx : li p x) {j : Nat} (hj : j < p.pages.length) : 0 ≤ eg p x j ∧ eg p x j ≤ 1200 := by
 have h1 := ux h j
 have h2 := um2 h hx hj
 unfold eg
 omega
theorem uc8 (p : af) (x : Nat → Int) (k : Nat) (v : Int) : eg p (gd x k v) k = c7 p k + v := by unfold eg; rw [uis]
end Go.AB
namespace Go.Proofs.YtbbdginipiljdaaGreatDoor
set_option maxRecDepth 10000
open Go Go.RowKit Go.AB
open Go.AB.Enc (cells)
open Go.PB (aw ai PlaceD bc bg bf bp aq af ci bn cx cz)
theorem ze (l : List U32) (i : Nat) (hb : ∀ x ∈ l, 0 ≤ x.v ∧ x.v ≤ 4294967295) (hi : i ≤ 1000000) : Pure Tryz.prog 23 [lst l, .v (.int .i64 (i : Int))] (.v (.int .i64 (lf l i))) := by
 refine co Tryz.func23 rfl (fun m => .v) fun G nx => ?_
 simp only [Tryz.ntmps23, List.length_cons, List.length_nil, Nat.reduceAdd, Nat.reduceSub]
 refine bq fun hlt => ?_
 dsimp only at hlt
 refine kf 0 (fun hf => ?_)
 have hf1 := (fit_lst.1 hf).1
 refine yS fun _ K1 => ?_
 refine yR ?_
 refine yA rfl rfl ?_
 refine yN ?_
 dsimp only [St.put]
 refine K1 _ ?_
 refine yS fun _ K2 => ?_
 refine yS fun _ K3 => ?_
 refine yR ?_
 refine yM rfl rfl ?_
 refine aa rfl (bd rfl rfl (List.length_map _)) ?_
 refine aa rfl (ff rfl rfl rfl) ?_
 refine yN ?_
 dsimp only [St.put]
 refine K3 _ ?_
 refine am rfl (fun hc => ?_) (fun hc => ?_)
 ·have h0 : l.length = 0 := by have := of_decide_eq_true hc; omega
  refine yS fun _ K4 => ?_
  refine yR ?_
  refine yA rfl rfl ?_
  refine yN ?_
  dsimp only [St.put]
  refine K4 _ ?_
  refine ar ?_
  refine ba rfl (by constructor) zN zS ?_
  exact vi (uns h0).symm
 have h0 : l.length ≠ 0 := by have := of_decide_eq_false hc; omega
 have hlt2 : i % l.length < l.length := Nat.mod_lt _ (by omega)
 obtain ⟨x, hx⟩ : ∃ x, l[i % l.length]? = some x := cw hlt2
 have hxb := hb x (fu hx)
 have hmod : ((i : Int) % (l.length : Int)) = ((i % l.length : Nat) : Int) := (Int.natCast_emod i l.length).symm
 have hpos : (0 : Int) < (l.length : Int) := by omega
 refine av ?_
 refine K2 _ ?_
 refine yS fun _ K5 => ?_
 refine yR ?_
 refine yM rfl rfl ?_
 refine yM rfl rfl ?_
 refine yM rfl rfl ?_
 refine aa rfl (bd rfl rfl (List.length_map _)) ?_
 refine aa rfl ((vy hmod rfl rfl rfl (by omega) hpos)) ?_
 refine aa rfl (bj rfl rfl rfl rfl (bi (by assumption)) (Enc.len _)) ?_
 refine yL rfl rfl rfl ?_
 refine aa rfl ((ule rfl rfl rfl rfl (by omega))) ?_
 refine yA rfl rfl ?_
 refine yN ?_
 dsimp only [St.put]
 refine K5 _ ?_
 refine ar ?_
 refine ba rfl (by constructor) zN zS ?_
 exact vi (unu hx).symm
set_option maxHeartbeats 4000000 in
theorem ugu (p : af) (l : List U32) : ez 0 er Tryz.prog 6 [val p, lst l] (.v (.bool true)) := fun G nx hF hnx => by
 refine ib (G) (nx) Tryz.func6 rfl (.v) zN (fun hlt => zH) ?_
 simp only [Tryz.ntmps6, List.length_cons, List.length_nil, Nat.reduceAdd, Nat.reduceSub]
 refine bq fun hlt => ?_
 dsimp only at hlt
 refine kf 1 (fun hfl => ?_)
 have hlb := uhf hfl
 refine yS fun _ K1 => ?_
 refine yR ?_
 try dsimp only [St.put]
 refine yB rfl rfl rfl ?_
 refine yA rfl rfl ?_
 refine yN ?_
 dsimp only [St.put]
 refine K1 _ ?_
 refine yS fun _ K2 => ?_
 refine yR ?_
 try dsimp only [St.put]
 refine ae rfl ((d9 rfl rfl rfl ((uou 0)) zG (by dsimp only [St.put]; omega) ?_))
 refine yA rfl rfl ?_
 refine yN ?_
 dsimp only [St.put]
 refine K2 _ ?_
 refine yS fun _ K3 => ?_
 refine yS fun _ K4 => ?_
 refine yR ?_
 refine yE rfl rfl rfl ?_
 try dsimp only [St.put]
 refine ae rfl (ay rfl rfl rfl (umc p) ?_)
 refine aa rfl (dl rfl rfl) ?_
 refine ed (fun hs => ?_) (fun hs => ?_)
 ·skip
  refine yM rfl rfl ?_
  refine yK rfl ?_
  refine yK rfl ?_
  refine aa rfl (bu rfl rfl (by constructor)) ?_
  refine yN ?_
  dsimp only [St.put]
  refine K4 _ ?_
  refine am rfl (fun _ => ?_) (fun h => by cases h)
  refine yS fun _ K5 => ?_
  refine yR ?_
  refine yM rfl rfl ?_
  refine yA rfl rfl ?_
  refine yN ?_
  dsimp only [St.put]
  refine K5 _ ?_
  refine ar ?_
  refine ba rfl (by constructor) zN zS ?_
  rfl
 have hrd : qv p = true := by simpa using hs
 have hC := (readyP_true.1 hrd).2
 obtain ⟨hok, _⟩ := lx hC
 have hnp := hok.np
 have htl := gu p.pages.length (c7 p)
 have hwl := gu p.pages.length (fl p)
 have hL0 : fa p (cj p) = bif g4 p then 0 else 8 := by rw [hC, rh]
 refine yM rfl rfl ?_
 refine yM rfl rfl ?_
 refine aa rfl (dl rfl rfl) ?_
 refine aa rfl (cd rfl rfl (by constructor)) ?_
 refine yN ?_
 dsimp only [St.put]
 refine K4 _ ?_
 refine am rfl (fun h => by cases h) (fun _ => ?_)
 refine av ?_
 refine K3 _ ?_
 refine yS fun _ K6 => ?_
 by_cases hT : g4 p = true
 ·have hL : fa p (cj p) = 0 := by rw [hL0, hT]; rfl
  refine yR ?_
  refine yE rfl rfl rfl ?_
  try dsimp only [St.put]
  refine ae rfl ((d9 rfl rfl rfl ((uma 0 p hL)) zG (by dsimp only [St.put]; omega) ?_))
  refine yM rfl rfl ?_
  refine yX rfl rfl rfl rfl ?_
  refine yX rfl rfl rfl rfl ?_
  refine yA rfl rfl ?_
  refine yA rfl rfl ?_
  refine yN ?_
  dsimp only [St.put]
  refine K6 _ ?_
  refine yS fun _ K7 => ?_
  refine yR ?_
  refine yE rfl rfl rfl ?_
  try dsimp only [St.put]
  refine ae rfl ((d9 rfl rfl rfl ((udu 0 p hC)) zG (by dsimp only [St.put]; omega) ?_))
  refine yM rfl rfl ?_
  refine yX rfl rfl rfl rfl ?_
  refine yX rfl rfl rfl rfl ?_
  refine yA rfl rfl ?_
  refine yA rfl rfl ?_
  refine yN ?_
  dsimp only [St.put]
  refine K7 _ ?_
  refine yS fun _ K8 => ?_
  refine yS fun _ K9 => ?_
  refine yR ?_
  refine yM rfl rfl ?_
  refine aa rfl ((eo (c := false) (fb rfl rfl rfl) (vx rfl))) ?_
  refine yN ?_
  dsimp only [St.put]
  refine K9 _ ?_
  refine am rfl (fun h => by cases h) (fun _ => ?_)
  refine av ?_
  refine K8 _ ?_
  refine yS fun _ K10 => ?_
  refine yS fun _ K11 => ?_
  refine yR ?_
  refine yM rfl rfl ?_
  refine aa rfl (dl rfl rfl) ?_
  refine yM rfl rfl ?_
  refine yM rfl rfl ?_
  refine aa rfl (bd rfl rfl (List.length_map _)) ?_
  refine yF rfl rfl rfl rfl ?_
  refine yL rfl rfl rfl ?_
  refine aa rfl (bd rfl rfl (List.length_map _)) ?_
  refine aa rfl ((eo (c := false) (fb rfl rfl rfl) (vx (by rw [hwl])))) ?_
  refine aa rfl (cd rfl rfl (by constructor)) ?_
  refine yN ?_
  dsimp only [St.put]
  refine K11 _ ?_
  refine am rfl (fun h => by cases h) (fun _ => ?_)
  refine av ?_
  refine K10 _ ?_
  refine yS fun _ K12 => ?_
  refine yR ?_
  try dsimp only [St.put]
  refine ae rfl (ung rfl (by decide) ?_)
  refine yM rfl rfl ?_
  try dsimp only [St.put]
  refine ae rfl (ug (xs := ([] : List Int)) (bh p.pages.length (c7 p)) rfl rfl zG rfl rfl rfl rfl zA zA (fun v1 => ?_))
  refine yA rfl rfl ?_
  refine yN ?_
  dsimp only [St.put]
  simp only [List.nil_append, htl]
  rw [show cp (bh p.pages.length (c7 p)) = cp (bh p.pages.length (eg p fun _ => 0)) by rw [uc6]]
  refine K12 _ ?_
  refine yS fun _ K13 => ?_
  refine yS fun _ K14 => ?_
  refine yR ?_
  refine yF rfl rfl rfl rfl ?_
  refine yL rfl rfl rfl ?_
  refine aa rfl (bd rfl rfl (List.length_map _)) ?_
  refine yM rfl rfl ?_
  refine yN ?_
  dsimp only [St.put]
  refine K14 _ ?_
  refine az ?_
  refine cb 64 ?_
  refine zQ ?_
  refine ct ((ak G nx (.arr v1 (0) 3 1 p.pages.length (cp (bh p.pages.length (eg p ((fun _ => 0)))))))) zX ?_
  dsimp only
  refine cr (X := Nat × (Nat → Int) × Nat) (fun y => y.1 ≤ p.pages.length ∧ li p y.2.1) (fun y => p.pages.length - y.1) (fun y => [(11, .any), (12, .any), (13, .any), (14, .any), (15, .any), (63, .v (.int .i64 (y.1 : Int)))]) (fun y G' => (ak G nx (.arr v1 (y.2.2) 3 1 p.pages.length (cp (bh p.pages.length (eg p (y.2.1))))))) (0, fun _ => 0, 0) rfl ?_ ?_ ?_ ?_ ?_ ?_
  ·exact ⟨Nat.zero_le _, um1 hok hT⟩
  ·exact zF
  ·exact zX
  ·rintro ⟨i, x, W⟩ hI
   exact zL
  ·rintro ⟨i, x, W⟩ hI
   exact zH
  rintro ⟨i, x, W⟩ hI
  dsimp only at hI ⊢
  refine yS fun _ K15 => ?_
  refine yR ?_
  refine aa rfl (ca rfl rfl rfl) ?_
  refine yN ?_
  dsimp only [St.put]
  refine K15 _ ?_
  refine yS fun _ K16 => ?_
  refine am rfl (fun hc => ?_) (fun hc => ?_)
  ·replace hc := of_decide_eq_true hc
   have hil : i < p.pages.length := by omega
   have hcb := unv hlb
   have hc0 := hcb 0
   have hc1 := hcb (1 + i)
   have hc2 := hcb (20 + i)
   obtain ⟨k, pg, hk, hpg⟩ := uj3 (l := p.pages) (a := (i : Int) + lf l 0) (by omega) (by omega)
   have hkl := (List.getElem?_eq_some_iff.1 hpg).1
   have hpt : (0 : Int) < (p.pages.length : Int) := by omega
   have hcap := xa hok k
   have hac := (Net.le_alone.1 (Int.le_refl ((bk p).alone (cm p) (cy p) k))).1
   have hal0 := Net.alone_nn (qz hok) (i := k) hkl (qp hT) (fun j _ => qf hok j)
   have hRM := umb 0 p hL hpg
   obtain ⟨AL, hAL⟩ : ∃ AL, (bk p).alone (cm p) (cy p) k = AL := ⟨_, rfl⟩
   rw [hAL] at hac hal0 hRM
   have htb := ux hok k
   have hgt := i2 (c7 p) hkl
   have hgm := i2 (eg p x) hkl
   refine av ?_
   refine K16 _ ?_
   refine yS fun _ K17 => ?_
   refine az ?_
   refine yS fun _ K18 => ?_
   refine yR ?_
   refine yM rfl rfl ?_
   refine yA rfl rfl ?_
   refine yN ?_
   dsimp only [St.put]
   refine K18 _ ?_
   refine yS fun _ K19 => ?_
   refine fk [(0, none), (1, none), (4, none), (5, none), (6, none), (2, none), (3, none), (7, none), (8, none)] (fun i => [].contains i) (fun i => [2].contains i) (fun i => [0, 1, 3, 4, 6, 7, 8].contains i) [] (by kernel_rfl) (by kernel_rfl) ?_
   refine xM rfl rfl rfl rfl rfl ?_
   refine xM rfl rfl rfl rfl rfl ?_
   refine ah rfl rfl rfl rfl (ce rfl rfl rfl) ?_
   try dsimp only [St.put]
   refine ax rfl rfl rfl rfl (bv rfl rfl) ?_
   refine ah rfl rfl rfl rfl (bd rfl rfl (List.length_map _)) ?_
   refine gw ?_
   try dsimp only [St.put]
   refine i1 rfl rfl rfl (ay rfl rfl rfl (ze l 0 hlb (by omega)) ⟨zD, ?_⟩)
   refine dd rfl rfl rfl rfl (bl rfl rfl rfl (by omega)) ?_
   refine dd rfl rfl rfl rfl ((vy hk rfl rfl rfl (by omega) hpt)) ?_
   refine dd rfl rfl rfl rfl (et rfl (by constructor)) ?_
   refine gl ?_
   dsimp only [St.put]
   refine K19 _ ?_
   refine yS fun _ K20 => ?_
   refine yR ?_
   refine yE rfl rfl rfl ?_
   refine yM rfl rfl ?_
   try dsimp only [St.put]
   refine ae rfl ((d9 rfl rfl rfl (hRM) zG (by dsimp only [St.put]; omega) ?_))
   refine yM rfl rfl ?_
   refine yX rfl rfl rfl rfl ?_
   refine yX rfl rfl rfl rfl ?_
   try dsimp only [St.put]
   refine ae rfl (dx rfl ?_)
   try dsimp only [St.put]
   refine ae rfl (c6 rfl rfl rfl zG rfl rfl (by rfl) ?_)
   refine yA rfl rfl ?_
   refine yN ?_
   dsimp only [St.put]
   refine K20 _ ?_
   refine gg (i := 13) rfl zG zC ?_
   dsimp only
   refine yS fun _ K21 => ?_
   refine yS fun _ K22 => ?_
   refine yR ?_
   refine yM rfl rfl ?_
   refine aa rfl ((eo (c := false) (fb rfl rfl rfl) (vx rfl))) ?_
   refine yN ?_
   dsimp only [St.put]
   refine K22 _ ?_
   refine am rfl (fun h => by cases h) (fun _ => ?_)
   refine av ?_
   refine K21 _ ?_
   refine yS fun _ K23 => ?_
   refine yR ?_
   refine yF rfl rfl rfl rfl ?_
   refine yL rfl rfl rfl ?_
   refine yA rfl rfl ?_
   refine yN ?_
   dsimp only [St.put]
   refine K23 _ ?_
   refine yS fun _ K24 => ?_
   refine yS fun _ K25 => ?_
   refine yR ?_
   refine yM rfl rfl ?_
   refine yM rfl rfl ?_
   refine aa rfl (bl rfl rfl rfl (by omega)) ?_
   try dsimp only [St.put]
   refine ae rfl (ay rfl rfl rfl (ze l (1 + i) hlb (by omega)) ?_)
   refine aa rfl ((vy (r := lf l (1 + i) % 3) rfl rfl rfl rfl (by omega) (by omega))) ?_
   refine aa rfl (ff rfl rfl rfl) ?_
   refine yN ?_
   dsimp only [St.put]
   refine K25 _ ?_
   refine am rfl (fun hc => ?_) (fun hc => ?_)
   ·obtain ⟨mo, hmo⟩ : ∃ mo, lf l (20 + i) % (max 0 AL + 1) = mo := ⟨_, rfl⟩
    have hmb : 0 ≤ mo ∧ mo ≤ AL := by
     have h1 := Int.emod_nonneg (lf l (20 + i)) (show max 0 AL + 1 ≠ 0 by omega)
     have h2 := Int.emod_lt_of_pos (lf l (20 + i)) (show 0 < max 0 AL + 1 by omega)
     omega
    refine fk [(0, none), (1, none), (2, none), (4, none), (5, none), (6, none), (7, none), (3, none), (8, none), (9, none)] (fun i => [].contains i) (fun i => [3].contains i) (fun i => [0, 1, 2, 4, 6, 7, 8, 9].contains i) [] (by kernel_rfl) (by kernel_rfl) ?_
    refine xM rfl rfl rfl rfl rfl ?_
    refine xM rfl rfl rfl rfl rfl ?_
    refine ah rfl rfl rfl rfl (bl rfl rfl rfl (by omega)) ?_
    refine ah rfl rfl rfl rfl (ce rfl rfl rfl) ?_
    try dsimp only [St.put]
    refine ax rfl rfl rfl rfl (bv rfl rfl) ?_
    refine ah rfl rfl rfl rfl (n_max rfl rfl rfl rfl) ?_
    refine ah rfl rfl rfl rfl (bl rfl rfl rfl (by omega)) ?_
    refine gw ?_
    try dsimp only [St.put]
    refine i1 rfl rfl rfl (ay rfl rfl rfl (ze l (20 + i) hlb (by omega)) ⟨zD, ?_⟩)
    refine dd rfl rfl rfl rfl ((vy (r := lf l (20 + i) % (max 0 AL + 1)) rfl rfl rfl rfl (by omega) (by omega))) ?_
    refine dd rfl rfl rfl rfl (et rfl (by constructor)) ?_
    refine gl ?_
    dsimp only [St.put]
    refine K24 _ ?_
    refine yS fun _ K26 => ?_
    rw [hmo]
    refine yR ?_
    refine yM rfl rfl ?_
    refine yM rfl rfl ?_
    refine yM rfl rfl ?_
    refine yM rfl rfl ?_
    try dsimp only [St.put]
    refine aa rfl ((bj rfl rfl rfl (by omega) (bi hgt) (Enc.len _))) ?_
    refine yL rfl rfl rfl ?_
    refine yM rfl rfl ?_
    refine aa rfl (bl rfl rfl rfl (by omega)) ?_
    try dsimp only [St.put]
    refine aa rfl ((kx rfl rfl zG rfl rfl hkl)) ?_
    try dsimp only [St.put]
    refine ae rfl (qd (k := k) (j := 0) (z := eg p x k) (z' := c7 p k + mo) rfl rfl rfl zG rfl rfl hgm rfl (by decide) rfl ?_)
    refine yN ?_
    dsimp only [St.put]
    rw [pr _ _ hkl, v6]
    refine K26 _ ?_
    refine az ?_
    refine cb 64 ?_
    refine zQ ?_
    refine ct ((ak G nx (.arr v1 ((W + 1)) 3 1 p.pages.length (cp (bh p.pages.length (eg p ((gd x k mo)))))))) zX ?_
    dsimp only
    refine cr (X := Int × Nat) (fun z => 0 ≤ z.1 ∧ z.1 ≤ AL) (fun z => z.1.toNat) (fun z => [(12, .v (.int .i64 (k : Int))), (13, .any), (14, .any), (15, .any)]) (fun z G' => (ak G nx (.arr v1 (z.2) 3 1 p.pages.length (cp (bh p.pages.length (eg p ((gd x k z.1)))))))) (mo, W + 1) rfl ?_ ?_ ?_ ?_ ?_ ?_
    ·exact hmb
    ·exact zF
    ·exact zX
    ·rintro ⟨u, V⟩ hI
     exact zL
    ·rintro ⟨u, V⟩ hI
     exact zH
    rintro ⟨u, V⟩ hJ
    dsimp only at hJ ⊢
    refine yS fun _ K27 => ?_
    refine yS fun _ K28 => ?_
    have hgu := i2 (eg p (gd x k u)) hkl
    have hmu := uc8 p x k u
    rw [hmu] at hgu
    refine fk [(0, none), (1, none), (2, none), (3, none), (4, none), (5, none), (6, none), (7, none), (8, none), (9, none), (10, none), (11, none), (12, none), (13, none), (14, none)] (fun i => [12].contains i) (fun i => [12].contains i) (fun i => [0, 1, 2, 4, 5, 6, 8, 9, 11, 13, 14].contains i) [nx] (by kernel_rfl) (by kernel_rfl) ?_
    refine xM rfl rfl rfl rfl rfl ?_
    refine xM rfl rfl rfl rfl rfl ?_
    try dsimp only [St.put]
    refine ah rfl rfl rfl rfl ((kx rfl rfl zG rfl rfl hkl)) ?_
    try dsimp only [St.put]
    refine ax rfl rfl rfl rfl ((ja rfl rfl zG (by simp) (rq (by rw [Nat.mul_one]; exact hgu)))) ?_
    refine xM rfl rfl rfl rfl rfl ?_
    refine xM rfl rfl rfl rfl rfl ?_
    try dsimp only [St.put]
    refine ah rfl rfl rfl rfl ((bj rfl rfl rfl (by omega) (bi hgt) (Enc.len _))) ?_
    try dsimp only [St.put]
    refine ax rfl rfl rfl rfl (bv rfl rfl) ?_
    refine ah rfl rfl rfl rfl (gp rfl rfl rfl) ?_
    refine i7 (fun hs => ?_) (fun hs => ?_)
    ·have hup := of_decide_eq_true hs
     obtain ⟨tb, htb2⟩ : ∃ tb, jf p (bh p.pages.length (eg p (gd x k u))) = tb := ⟨_, rfl⟩
     refine xM rfl rfl rfl rfl rfl ?_
     try dsimp only [St.put]
     refine ax rfl rfl rfl rfl (d8 rfl rfl (Enc.len _)) ?_
     refine xM rfl rfl rfl rfl rfl ?_
     refine gw ?_
     try dsimp only [St.put]
     refine gr rfl rfl rfl rfl (ue (as' := [val p, lst (bh p.pages.length (eg p (gd x k u)))]) rfl rfl rfl (zc p hok _ (by rw [gu]; omega) htb2) ⟨.low (eb _ _), .own _ zG rfl rfl (gu _ _).symm, trivial⟩ (ub _) ?_)
     refine dd rfl rfl rfl rfl (dl rfl rfl) ?_
     refine uf8 (fun hs => ?_) (fun hs => ?_)
     ·skip
      refine dd rfl rfl rfl rfl (bu rfl rfl (by constructor)) ?_
      refine gl ?_
      dsimp only [St.put]
      refine K28 _ ?_
      refine am rfl (fun _ => ?_) (fun h => by cases h)
      refine av ?_
      refine K27 _ ?_
      refine az ?_
      refine yR ?_
      refine yM rfl rfl ?_
      refine yM rfl rfl ?_
      try dsimp only [St.put]
      refine aa rfl ((kx rfl rfl zG rfl rfl hkl)) ?_
      try dsimp only [St.put]
      refine bw rfl ((ja rfl rfl zG (by simp) (rq (by rw [Nat.mul_one]; exact hgu)))) ?_
      refine aa rfl (fq rfl rfl rfl (by omega)) ?_
      try dsimp only [St.put]
      refine aa rfl ((kx rfl rfl zG rfl rfl hkl)) ?_
      try dsimp only [St.put]
      refine ae rfl (qd (k := k) (j := 0) (z := c7 p k + u) (z' := c7 p k + u - 1) rfl rfl rfl zG rfl rfl hgu rfl (by decide) rfl ?_)
      refine yN ?_
      dsimp only [St.put]
      rw [pr _ _ hkl, show c7 p k + u - 1 = c7 p k + (u - 1) by omega, v6, ubh]
      exact ⟨(u - 1, V + 1), by (dsimp only; omega), ⟨by (dsimp only; omega), by (dsimp only; omega)⟩, ⟨⟨rfl, rfl⟩, zF, zB, zN, zX⟩⟩
     have hfx : li p (gd x k u) := (w5 hok _).1 (htb2.trans (by simpa using hs))
     refine dd rfl rfl rfl rfl (bu rfl rfl (by constructor)) ?_
     refine gl ?_
     dsimp only [St.put]
     refine K28 _ ?_
     refine am rfl (fun h => by cases h) (fun _ => ?_)
     refine cn ?_
     refine K17 _ ?_
     refine yR ?_
     refine aa rfl (bl rfl rfl rfl (by omega)) ?_
     refine yM rfl rfl ?_
     refine yN ?_
     dsimp only [St.put]
     exact ⟨(i + 1, gd x k u, V), by (dsimp only; omega), ⟨by (dsimp only; omega), hfx⟩, ⟨⟨rfl, rfl⟩, zF, zB, zN, zX⟩⟩
    have hup := of_decide_eq_false hs
    have hfx : li p (gd x k u) := by
     rw [show u = 0 by omega]
     exact ueh hI.2 k
    refine xM rfl rfl rfl rfl rfl ?_
    refine aj rfl rfl rfl ?_
    refine aj rfl rfl rfl ?_
    refine gw ?_
    refine uf9 rfl rfl rfl ?_
    refine uga rfl rfl rfl ?_
    refine dd rfl rfl rfl rfl (cd rfl rfl (by constructor)) ?_
    refine gl ?_
    dsimp only [St.put]
    refine K28 _ ?_
    refine am rfl (fun h => by cases h) (fun _ => ?_)
    refine cn ?_
    refine K17 _ ?_
    refine yR ?_
    refine aa rfl (bl rfl rfl rfl (by omega)) ?_
    refine yM rfl rfl ?_
    refine yN ?_
    dsimp only [St.put]
    exact ⟨(i + 1, gd x k u, V), by (dsimp only; omega), ⟨by (dsimp only; omega), hfx⟩, ⟨⟨rfl, rfl⟩, zF, zB, zN, zX⟩⟩
   obtain ⟨mo, hmo⟩ : ∃ mo, AL = mo := ⟨_, rfl⟩
   have hmb : 0 ≤ mo ∧ mo ≤ AL := by omega
   refine av ?_
   refine K24 _ ?_
   refine yS fun _ K29 => ?_
   rw [hmo]
   refine yR ?_
   refine yM rfl rfl ?_
   refine yM rfl rfl ?_
   refine yM rfl rfl ?_
   refine yM rfl rfl ?_
   try dsimp only [St.put]
   refine aa rfl ((bj rfl rfl rfl (by omega) (bi hgt) (Enc.len _))) ?_
   refine yL rfl rfl rfl ?_
   refine yM rfl rfl ?_
   refine aa rfl (bl rfl rfl rfl (by omega)) ?_
   try dsimp only [St.put]
   refine aa rfl ((kx rfl rfl zG rfl rfl hkl)) ?_
   try dsimp only [St.put]
   refine ae rfl (qd (k := k) (j := 0) (z := eg p x k) (z' := c7 p k + mo) rfl rfl rfl zG rfl rfl hgm rfl (by decide) rfl ?_)
   refine yN ?_
   dsimp only [St.put]
   rw [pr _ _ hkl, v6]
   refine K29 _ ?_
   refine az ?_
   refine cb 64 ?_
   refine zQ ?_
   refine ct ((ak G nx (.arr v1 ((W + 1)) 3 1 p.pages.length (cp (bh p.pages.length (eg p ((gd x k mo)))))))) zX ?_
   dsimp only
   refine cr (X := Int × Nat) (fun z => 0 ≤ z.1 ∧ z.1 ≤ AL) (fun z => z.1.toNat) (fun z => [(12, .v (.int .i64 (k : Int))), (13, .any), (14, .any), (15, .any)]) (fun z G' => (ak G nx (.arr v1 (z.2) 3 1 p.pages.length (cp (bh p.pages.length (eg p ((gd x k z.1)))))))) (mo, W + 1) rfl ?_ ?_ ?_ ?_ ?_ ?_
   ·exact hmb
   ·exact zF
   ·exact zX
   ·rintro ⟨u, V⟩ hI
    exact zL
   ·rintro ⟨u, V⟩ hI
    exact zH
   rintro ⟨u, V⟩ hJ
   dsimp only at hJ ⊢
   refine yS fun _ K30 => ?_
   refine yS fun _ K31 => ?_
   have hgu := i2 (eg p (gd x k u)) hkl
   have hmu := uc8 p x k u
   rw [hmu] at hgu
   refine fk [(0, none), (1, none), (2, none), (3, none), (4, none), (5, none), (6, none), (7, none), (8, none), (9, none), (10, none), (11, none), (12, none), (13, none), (14, none)] (fun i => [12].contains i) (fun i => [12].contains i) (fun i => [0, 1, 2, 4, 5, 6, 8, 9, 11, 13, 14].contains i) [nx] (by kernel_rfl) (by kernel_rfl) ?_
   refine xM rfl rfl rfl rfl rfl ?_
   refine xM rfl rfl rfl rfl rfl ?_
   try dsimp only [St.put]
   refine ah rfl rfl rfl rfl ((kx rfl rfl zG rfl rfl hkl)) ?_
   try dsimp only [St.put]
   refine ax rfl rfl rfl rfl ((ja rfl rfl zG (by simp) (rq (by rw [Nat.mul_one]; exact hgu)))) ?_
   refine xM rfl rfl rfl rfl rfl ?_
   refine xM rfl rfl rfl rfl rfl ?_
   try dsimp only [St.put]
   refine ah rfl rfl rfl rfl ((bj rfl rfl rfl (by omega) (bi hgt) (Enc.len _))) ?_
   try dsimp only [St.put]
   refine ax rfl rfl rfl rfl (bv rfl rfl) ?_
   refine ah rfl rfl rfl rfl (gp rfl rfl rfl) ?_
   refine i7 (fun hs => ?_) (fun hs => ?_)
   ·have hup := of_decide_eq_true hs
    obtain ⟨tb, htb2⟩ : ∃ tb, jf p (bh p.pages.length (eg p (gd x k u))) = tb := ⟨_, rfl⟩
    refine xM rfl rfl rfl rfl rfl ?_
    try dsimp only [St.put]
    refine ax rfl rfl rfl rfl (d8 rfl rfl (Enc.len _)) ?_
    refine xM rfl rfl rfl rfl rfl ?_
    refine gw ?_
    try dsimp only [St.put]
    refine gr rfl rfl rfl rfl (ue (as' := [val p, lst (bh p.pages.length (eg p (gd x k u)))]) rfl rfl rfl (zc p hok _ (by rw [gu]; omega) htb2) ⟨.low (eb _ _), .own _ zG rfl rfl (gu _ _).symm, trivial⟩ (ub _) ?_)
    refine dd rfl rfl rfl rfl (dl rfl rfl) ?_
    refine uf8 (fun hs => ?_) (fun hs => ?_)
    ·skip
     refine dd rfl rfl rfl rfl (bu rfl rfl (by constructor)) ?_
     refine gl ?_
     dsimp only [St.put]
     refine K31 _ ?_
     refine am rfl (fun _ => ?_) (fun h => by cases h)
     refine av ?_
     refine K30 _ ?_
     refine az ?_
     refine yR ?_
     refine yM rfl rfl ?_
     refine yM rfl rfl ?_
     try dsimp only [St.put]
     refine aa rfl ((kx rfl rfl zG rfl rfl hkl)) ?_
     try dsimp only [St.put]
     refine bw rfl ((ja rfl rfl zG (by simp) (rq (by rw [Nat.mul_one]; exact hgu)))) ?_
     refine aa rfl (fq rfl rfl rfl (by omega)) ?_
     try dsimp only [St.put]
     refine aa rfl ((kx rfl rfl zG rfl rfl hkl)) ?_
     try dsimp only [St.put]
     refine ae rfl (qd (k := k) (j := 0) (z := c7 p k + u) (z' := c7 p k + u - 1) rfl rfl rfl zG rfl rfl hgu rfl (by decide) rfl ?_)
     refine yN ?_
     dsimp only [St.put]
     rw [pr _ _ hkl, show c7 p k + u - 1 = c7 p k + (u - 1) by omega, v6, ubh]
     exact ⟨(u - 1, V + 1), by (dsimp only; omega), ⟨by (dsimp only; omega), by (dsimp only; omega)⟩, ⟨⟨rfl, rfl⟩, zF, zB, zN, zX⟩⟩
    have hfx : li p (gd x k u) := (w5 hok _).1 (htb2.trans (by simpa using hs))
    refine dd rfl rfl rfl rfl (bu rfl rfl (by constructor)) ?_
    refine gl ?_
    dsimp only [St.put]
    refine K31 _ ?_
    refine am rfl (fun h => by cases h) (fun _ => ?_)
    refine cn ?_
    refine K17 _ ?_
    refine yR ?_
    refine aa rfl (bl rfl rfl rfl (by omega)) ?_
    refine yM rfl rfl ?_
    refine yN ?_
    dsimp only [St.put]
    exact ⟨(i + 1, gd x k u, V), by (dsimp only; omega), ⟨by (dsimp only; omega), hfx⟩, ⟨⟨rfl, rfl⟩, zF, zB, zN, zX⟩⟩
   have hup := of_decide_eq_false hs
   have hfx : li p (gd x k u) := by
    rw [show u = 0 by omega]
    exact ueh hI.2 k
   refine xM rfl rfl rfl rfl rfl ?_
   refine aj rfl rfl rfl ?_
   refine aj rfl rfl rfl ?_
   refine gw ?_
   refine uf9 rfl rfl rfl ?_
   refine uga rfl rfl rfl ?_
   refine dd rfl rfl rfl rfl (cd rfl rfl (by constructor)) ?_
   refine gl ?_
   dsimp only [St.put]
   refine K31 _ ?_
   refine am rfl (fun h => by cases h) (fun _ => ?_)
   refine cn ?_
   refine K17 _ ?_
   refine yR ?_
   refine aa rfl (bl rfl rfl rfl (by omega)) ?_
   refine yM rfl rfl ?_
   refine yN ?_
   dsimp only [St.put]
   exact ⟨(i + 1, gd x k u, V), by (dsimp only; omega), ⟨by (dsimp only; omega), hfx⟩, ⟨⟨rfl, rfl⟩, zF, zB, zN, zX⟩⟩
  replace hc := of_decide_eq_false hc
  have hfx := hI.2
  have htx := (w5 hok x).2 hfx
  have hsm := uhz p x
  have hsw := uhx hok hT
  have hst := uhy hok hfx
  have hol := gu p.pages.length (eg p x)
  have hb1 : ∀ z ∈ bh p.pages.length (eg p x), -1000000000 ≤ z ∧ z ≤ 1000000000 := fun z hz => by
   obtain ⟨j, hj, rfl⟩ := xx hz
   have := uc7 hok hfx hj
   omega
  have hb2 : ∀ z ∈ bh p.pages.length (c7 p), -1000000000 ≤ z ∧ z ≤ 1000000000 := fun z hz => by
   obtain ⟨j, hj, rfl⟩ := xx hz
   have := ux hok j
   omega
  have hwb : ∀ j, j < p.pages.length → 0 ≤ fl p j ∧ fl p j ≤ 600 := fun j hj => by
   have h1 := ((Net.worst_feas (qz hok) (qp hT) fun j _ => qf hok j).page j hj)
   have h2 := xa hok j
   exact ⟨h1.1, Int.le_trans h1.2 h2.2⟩
  have hb3 : ∀ z ∈ bh p.pages.length (fl p), -1000000000 ≤ z ∧ z ≤ 1000000000 := fun z hz => by
   obtain ⟨j, hj, rfl⟩ := xx hz
   have := hwb j hj
   omega
  have hs1 := uz (m := 1000000000) (by omega) hb1 p.pages.length (by omega)
  have hs2 := uz (m := 1000000000) (by omega) hb2 p.pages.length (by omega)
  rw [f5 (by omega)] at hs1 hs2
  obtain ⟨SO, hSO⟩ : ∃ SO, (bh p.pages.length (eg p x)).sum = SO := ⟨_, rfl⟩
  obtain ⟨SD, hSD⟩ : ∃ SD, (bh p.pages.length (c7 p)).sum = SD := ⟨_, rfl⟩
  have hP1 := zd (bh p.pages.length (eg p x)) (by omega) hb1
  have hP2 := zd (bh p.pages.length (c7 p)) (by omega) hb2
  have hP3 := zd (bh p.pages.length (fl p)) (by omega) hb3
  rw [hSO] at hP1 hs1 hsm
  rw [hSD] at hP2 hs2 hsm
  rw [hsw] at hP3
  refine cn ?_
  refine K13 _ ?_
  refine yS fun _ K32 => ?_
  refine yS fun _ K33 => ?_
  refine yR ?_
  refine yE rfl rfl rfl ?_
  refine yM rfl rfl ?_
  try dsimp only [St.put]
  refine ae rfl (ue (as' := [val p, lst (bh p.pages.length (eg p x))]) rfl rfl rfl (zc p hok _ (by omega) htx) ⟨.low (eb _ _), .own _ zG rfl rfl hol.symm, trivial⟩ (ub _) ?_)
  refine aa rfl (dl rfl rfl) ?_
  refine yM rfl rfl ?_
  refine yM rfl rfl ?_
  try dsimp only [St.put]
  refine ae rfl (ue (as' := [lst (bh p.pages.length (eg p x))]) rfl rfl rfl hP1 ⟨.own _ zG rfl rfl hol.symm, trivial⟩ (ub _) ?_)
  refine yM rfl rfl ?_
  try dsimp only [St.put]
  refine ae rfl (ay rfl rfl rfl (hP2) ?_)
  refine aa rfl (fq rfl rfl rfl (by omega)) ?_
  refine yM rfl rfl ?_
  try dsimp only [St.put]
  refine ae rfl (ay rfl rfl rfl (hP3) ?_)
  refine aa rfl ((eo (c := false) (gp rfl rfl rfl) (decide_eq_false (by omega)))) ?_
  refine aa rfl (cd rfl rfl (by constructor)) ?_
  refine yN ?_
  dsimp only [St.put]
  refine K33 _ ?_
  refine am rfl (fun h => by cases h) (fun _ => ?_)
  refine av ?_
  refine K32 _ ?_
  refine yS fun _ K34 => ?_
  refine yS fun _ K35 => ?_
  refine yR ?_
  refine yM rfl rfl ?_
  try dsimp only [St.put]
  refine ae rfl (ue (as' := [lst (bh p.pages.length (eg p x))]) rfl rfl rfl hP1 ⟨.own _ zG rfl rfl hol.symm, trivial⟩ (ub _) ?_)
  refine yM rfl rfl ?_
  try dsimp only [St.put]
  refine ae rfl (ay rfl rfl rfl (hP2) ?_)
  refine aa rfl (fq rfl rfl rfl (by omega)) ?_
  refine yM rfl rfl ?_
  try dsimp only [St.put]
  refine ae rfl (ay rfl rfl rfl (hP3) ?_)
  refine aa rfl (ca rfl rfl rfl) ?_
  refine yN ?_
  dsimp only [St.put]
  refine K35 _ ?_
  refine am rfl (fun hc => ?_) (fun hc => ?_)
  ·skip
   refine yS fun _ K36 => ?_
   refine yR ?_
   refine yM rfl rfl ?_
   refine yA rfl rfl ?_
   refine yN ?_
   dsimp only [St.put]
   refine K36 _ ?_
   refine ar ?_
   refine ba rfl (by constructor) zN zS ?_
   rfl
  replace hc := of_decide_eq_false hc
  have heq : sm p.pages.length x = qr p := by omega
  refine av ?_
  refine K34 _ ?_
  refine yS fun _ K37 => ?_
  refine yS fun _ K38 => ?_
  refine yR ?_
  refine yM rfl rfl ?_
  refine aa rfl (bd rfl rfl (List.length_map _)) ?_
  refine yM rfl rfl ?_
  refine yN ?_
  dsimp only [St.put]
  refine K38 _ ?_
  refine az ?_
  refine cb 156 ?_
  refine zQ ?_
  refine ct ((ak G nx (.arr v1 (W) 3 1 p.pages.length (cp (bh p.pages.length (eg p (x))))))) zX ?_
  dsimp only
  refine cr (X := Nat) (fun j => j ≤ p.pages.length ∧ ∀ q, q < j → x q = fl p q) (fun j => p.pages.length - j) (fun j => [(16, .any), (17, .any), (155, .v (.int .i64 (j : Int)))]) (fun j G' => (ak G nx (.arr v1 (W) 3 1 p.pages.length (cp (bh p.pages.length (eg p (x))))))) 0 rfl ?_ ?_ ?_ ?_ ?_ ?_
  ·exact ⟨Nat.zero_le _, fun q hq => absurd hq (Nat.not_lt_zero _)⟩
  ·exact zF
  ·exact zX
  ·rintro j hI
   exact zL
  ·rintro j hI
   exact zH
  rintro j hJ
  dsimp only at hJ ⊢
  refine yS fun _ K39 => ?_
  refine yR ?_
  refine aa rfl (ca rfl rfl rfl) ?_
  refine yN ?_
  dsimp only [St.put]
  refine K39 _ ?_
  refine yS fun _ K40 => ?_
  refine am rfl (fun hc => ?_) (fun hc => ?_)
  ·have hjl : j < p.pages.length := by
    have : (j : Int) < ((bh p.pages.length (fl p)).length : Int) := of_decide_eq_true hc
    rw [hwl] at this
    omega
   have hgo := i2 (eg p x) hjl
   have hgt := i2 (c7 p) hjl
   have hgw := i2 (fl p) hjl
   have hx1 : eg p x j - c7 p j = x j := by unfold eg; omega
   have hm1 := uc7 hok hfx hjl
   have hm2 := ux hok j
   have hwf := ugv hok hT hfx heq hjl hJ.2
   refine av ?_
   refine K40 _ ?_
   refine yS fun _ K41 => ?_
   refine az ?_
   refine yS fun _ K42 => ?_
   refine yR ?_
   refine yM rfl rfl ?_
   refine yA rfl rfl ?_
   refine yN ?_
   dsimp only [St.put]
   refine K42 _ ?_
   refine yS fun _ K43 => ?_
   refine fk [(0, none), (1, none), (2, none), (3, none), (4, none), (5, none), (6, none), (7, none), (8, none), (9, none)] (fun i => [].contains i) (fun i => [].contains i) (fun i => [0, 1, 2, 4, 5, 6, 8, 9].contains i) [nx] (by kernel_rfl) (by kernel_rfl) ?_
   refine xM rfl rfl rfl rfl rfl ?_
   refine xM rfl rfl rfl rfl rfl ?_
   try dsimp only [St.put]
   refine ah rfl rfl rfl rfl ((kx rfl rfl zG rfl rfl hjl)) ?_
   try dsimp only [St.put]
   refine ax rfl rfl rfl rfl ((ja rfl rfl zG (by simp) (umv hjl))) ?_
   refine xM rfl rfl rfl rfl rfl ?_
   refine xM rfl rfl rfl rfl rfl ?_
   try dsimp only [St.put]
   refine ah rfl rfl rfl rfl ((bj rfl rfl rfl (by omega) (bi hgt) (Enc.len _))) ?_
   try dsimp only [St.put]
   refine ax rfl rfl rfl rfl (bv rfl rfl) ?_
   refine ah rfl rfl rfl rfl (fq rfl rfl rfl (by omega)) ?_
   refine ah rfl rfl rfl rfl (et rfl (by constructor)) ?_
   refine cg ?_
   dsimp only [St.put]
   rw [hx1]
   refine K43 _ ?_
   refine yS fun _ K44 => ?_
   refine yR ?_
   refine yM rfl rfl ?_
   refine yM rfl rfl ?_
   refine yM rfl rfl ?_
   try dsimp only [St.put]
   refine aa rfl ((bj rfl rfl rfl (by omega) (bi hgw) (Enc.len _))) ?_
   refine yL rfl rfl rfl ?_
   refine aa rfl (fb rfl rfl rfl) ?_
   refine yN ?_
   dsimp only [St.put]
   refine K44 _ ?_
   refine am rfl (fun hc => ?_) (fun hc => ?_)
   ·have hne : x j ≠ fl p j := fun e => by rw [e] at hc; simp at hc
    refine yS fun _ K45 => ?_
    refine yR ?_
    refine yM rfl rfl ?_
    refine yM rfl rfl ?_
    refine yM rfl rfl ?_
    refine yM rfl rfl ?_
    refine yM rfl rfl ?_
    try dsimp only [St.put]
    refine aa rfl ((bj rfl rfl rfl (by omega) (bi hgw) (Enc.len _))) ?_
    refine yL rfl rfl rfl ?_
    refine aa rfl ((eo (c := true) (ca rfl rfl rfl) (decide_eq_true (by omega)))) ?_
    refine aa rfl (bu rfl rfl (by constructor)) ?_
    refine yA rfl rfl ?_
    refine yN ?_
    dsimp only [St.put]
    refine K45 _ ?_
    refine ar ?_
    refine ba rfl (by constructor) zN zS ?_
    rfl
   have heqj : x j = fl p j := by simpa using hc
   refine av ?_
   refine K41 _ ?_
   refine yR ?_
   refine aa rfl (bl rfl rfl rfl (by omega)) ?_
   refine yM rfl rfl ?_
   refine yN ?_
   dsimp only [St.put]
   exact ⟨j + 1, by omega, ⟨by omega, fun q hq => by
     by_cases e : q = j
     ·subst e; exact heqj
     exact hJ.2 q (by omega)⟩, ⟨⟨rfl, rfl⟩, zF, zB, zN, zX⟩⟩
  skip
  refine cn ?_
  refine K37 _ ?_
  refine yS fun _ K46 => ?_
  refine yR ?_
  refine yM rfl rfl ?_
  refine yA rfl rfl ?_
  refine yN ?_
  dsimp only [St.put]
  refine K46 _ ?_
  refine ar ?_
  refine ba rfl (by constructor) zN zS ?_
  rfl
 have hT0 : g4 p = false := by simpa using hT
 have hL : fa p (cj p) = 8 := by rw [hL0, hT0]; rfl
 refine yR ?_
 refine yE rfl rfl rfl ?_
 try dsimp only [St.put]
 refine ae rfl ((d9 rfl rfl rfl ((yk 0 p)) zG (by dsimp only [St.put]; omega) ?_))
 refine yM rfl rfl ?_
 refine yX rfl rfl rfl rfl ?_
 refine yX rfl rfl rfl rfl ?_
 refine yA rfl rfl ?_
 refine yA rfl rfl ?_
 refine yN ?_
 dsimp only [St.put]
 refine K6 _ ?_
 refine yS fun _ K47 => ?_
 refine yR ?_
 refine yE rfl rfl rfl ?_
 try dsimp only [St.put]
 refine ae rfl ((d9 rfl rfl rfl ((udu 0 p hC)) zG (by dsimp only [St.put]; omega) ?_))
 refine yM rfl rfl ?_
 refine yX rfl rfl rfl rfl ?_
 refine yX rfl rfl rfl rfl ?_
 refine yA rfl rfl ?_
 refine yA rfl rfl ?_
 refine yN ?_
 dsimp only [St.put]
 refine K47 _ ?_
 refine yS fun _ K48 => ?_
 refine yS fun _ K49 => ?_
 refine yR ?_
 refine yM rfl rfl ?_
 refine aa rfl ((eo (c := true) (fb rfl rfl rfl) (by rw [hL]; rfl))) ?_
 refine yN ?_
 dsimp only [St.put]
 refine K49 _ ?_
 refine am rfl (fun _ => ?_) (fun h => by cases h)
 refine yS fun _ K50 => ?_
 refine yR ?_
 refine yM rfl rfl ?_
 refine yM rfl rfl ?_
 refine yM rfl rfl ?_
 refine aa rfl ((eo (c := true) (ff rfl rfl rfl) (decide_eq_true hL))) ?_
 refine aa rfl (bu rfl rfl (by constructor)) ?_
 refine yM rfl rfl ?_
 refine yM rfl rfl ?_
 refine aa rfl (bu rfl rfl (by constructor)) ?_
 refine yA rfl rfl ?_
 refine yN ?_
 dsimp only [St.put]
 refine K50 _ ?_
 refine ar ?_
 refine ba rfl (by constructor) zN zS ?_
 rfl
end Go.Proofs.YtbbdginipiljdaaGreatDoor
namespace Go.AB
open Go Go.RowKit Go.ChangeShapes Go.WideShapes
section
variable {H : Type} {enc : TypeId × Value → H} {P : Program} {w : World} {base : Nat} {spare : Nat → Bool} {held : Bool}
end
end Go.AB
