/-
  What the walks through the program rest on: values, states, steps, calls (ReAsk, RjRests, QoRef, RkTotal, RgSets, QpRef, QqRef, RlChief, SaAlive, PkGuess, SbFacts, SdSums, SeEnds, OpenL, OpenW, OpenS, Trod).
-/
import Derived.Test.YtbbdginipiljdaaGreatDoorPartD
import Derived.Test.YtbbdginipiljdaaGreatDoorPartC
import Derived.Test.YtbbdginipiljdaaGreatDoorRows
import Derived.LaidMore
import Derived.RowKitVeiled
import Derived.Carry
namespace Go.AB
open Go Go.RowKit
open Go.AB.Enc (cells)
open Go.PB (aw ai PlaceD bc bf bd bl am af ck bi cy c6)
def pgC (p : af) (n : Int) : C := bif decide (ed p n = 0) then jh p else .v (.pointer none)
theorem ujo (m : Nat) (p : af) (n : Int) : C.low m (pgC p n) := by
 unfold pgC
 cases decide (ed p n = 0)
 ·exact .v
 exact ucr m p
theorem ub7 {p : af} {n : Int} (h : ed p n ≠ 0) : pgC p n = .v (.pointer none) := by unfold pgC; rw [decide_eq_false h]; rfl
theorem s9 {p : af} {n : Int} (h : ed p n = 0) : pgC p n = .elem [lst p.text, lst p.firsts, lst p.seconds, lst p.pages, lst (p.pages.map fun x => (el p.text x : Int)), lst (p.pages.map (dg p.text)), lst (p.pages.map (dv p.text))] := by
 unfold pgC
 rw [decide_eq_true h, cond_true, vt (qo h).1]
theorem rg {α β : Type} {l : List α} {k : Nat} {x : α} (f : α → β) (h : l[k]? = some x) : (l.map f)[k]? = some (f x) := by rw [List.getElem?_map, h]; rfl
end Go.AB
namespace Go.Proofs.YtbbdginipiljdaaGreatDoor
set_option maxRecDepth 10000
open Go Go.RowKit Go.AB
open Go.AB.Enc (cells)
open Go.PB (aw ai PlaceD bc bf bd bl am af ck bi cy c6)
theorem uie (m : Nat) (b : Bool) : ∀ c ∈ nt b, C.low m c := fun c hc => by
 simp only [List.mem_cons, List.not_mem_nil, or_false] at hc
 rcases hc with rfl | rfl | rfl <;> exact .fn (by simp)
theorem ra (n : Nat) (p : af) (m : Int) : er n em Tryz.prog 42 [val p, .v (.int .i64 m)] (.tup [pgC p m, .v (.int .i64 (ed p m))]) := fun G nx hF hnx => by
 refine g9 (G) (nx) Tryz.func42 rfl (.tup (bz (ujo _ _ _) (bz .v c4))) zN (fun hlt => zH) ?_
 simp only [Tryz.ntmps42, List.length_cons, List.length_nil, Nat.reduceAdd, Nat.reduceSub]
 refine bq fun hlt => ?_
 dsimp only at hlt
 refine yS fun _ K1 => ?_
 refine yR ?_
 try dsimp only [St.put]
 refine yB rfl rfl rfl ?_
 refine yA rfl rfl ?_
 refine yA rfl rfl ?_
 refine yN ?_
 dsimp only [St.put]
 refine K1 _ ?_
 refine yS fun _ K2 => ?_
 refine yR ?_
 refine yE rfl rfl rfl ?_
 try dsimp only [St.put]
 refine ae rfl (dz rfl rfl rfl (n2 n p) zG (by dsimp only [St.put]; omega) ?_)
 refine yM rfl rfl ?_
 refine yX rfl rfl rfl rfl ?_
 refine yX rfl rfl rfl rfl ?_
 refine yA rfl rfl ?_
 refine yA rfl rfl ?_
 refine yN ?_
 dsimp only [St.put]
 refine K2 _ ?_
 refine yS fun _ K3 => ?_
 refine yS fun _ K4 => ?_
 refine yR ?_
 refine yM rfl rfl ?_
 refine aa rfl (eh rfl rfl rfl) ?_
 refine yN ?_
 dsimp only [St.put]
 refine K4 _ ?_
 refine aq rfl (fun hc => ?_) (fun hc => ?_)
 ·have h0 : cj p ≠ 0 := ji hc
  have hE : ed p m = cj p := by simp [ed, h0]
  refine yS fun _ K5 => ?_
  refine yR ?_
  refine yM rfl rfl ?_
  refine yA rfl rfl ?_
  refine yA rfl rfl ?_
  refine yN ?_
  dsimp only [St.put]
  refine K5 _ ?_
  refine ar ?_
  refine jk rfl (by constructor) (by constructor) zN zS ?_ ?_
  ·rw [ub7 (by rw [hE]; exact h0)]
  rw [hE]
 have h0 : cj p = 0 := g3 hc
 have hnp := (lu h0).1.np
 refine av ?_
 refine K3 _ ?_
 refine yS fun _ K6 => ?_
 refine yS fun _ K7 => ?_
 refine yR ?_
 refine yF rfl rfl rfl rfl ?_
 refine yL rfl rfl rfl ?_
 refine aa rfl (bg rfl rfl (List.length_map _)) ?_
 refine aa rfl (gn rfl rfl rfl (by omega)) ?_
 refine yM rfl rfl ?_
 try dsimp only [St.put]
 refine ae rfl (dm rfl rfl rfl (by decide) (by decide) zR (by decide) ?_)
 try dsimp only [St.put]
 refine ae rfl (ay rfl rfl rfl (mu _ _ [_]) ?_)
 refine aa rfl (dd rfl rfl) ?_
 refine yN ?_
 dsimp only [St.put]
 refine K7 _ ?_
 refine aq rfl (fun hc => ?_) (fun hc => ?_)
 ·have h1 : inB m 0 ((p.pages.length : Int) - 1) = false := by rw [f8] at hc; simpa using hc
  have hE : ed p m = 2 := by simp [ed, h0, h1]
  refine yS fun _ K8 => ?_
  refine yR ?_
  refine yA rfl rfl ?_
  refine yA rfl rfl ?_
  refine yN ?_
  dsimp only [St.put]
  refine K8 _ ?_
  refine ar ?_
  refine jk rfl (by constructor) (by constructor) zN zS ?_ ?_
  ·rw [ub7 (by rw [hE]; decide)]
  rw [hE]
 have h1 : inB m 0 ((p.pages.length : Int) - 1) = true := by rw [f8] at hc; simpa using hc
 have hE : ed p m = 0 := by simp [ed, h0, h1]
 refine av ?_
 refine K6 _ ?_
 refine yS fun _ K9 => ?_
 refine yR ?_
 refine yM rfl rfl ?_
 refine yA rfl rfl ?_
 refine yA rfl rfl ?_
 refine yN ?_
 dsimp only [St.put]
 refine K9 _ ?_
 refine ar ?_
 refine jk rfl (by constructor) (by constructor) zN zS ?_ ?_
 ·unfold pgC; rw [decide_eq_true hE]; rfl
 rw [hE]
theorem uju (n : Nat) (p : af) (m : Int) : er n em Tryz.prog 62 [val p, .v (.int .i64 m)] (.tup [.v (.int .i64 (px p m)), .v (.int .i64 (ed p m))]) := fun G nx hF hnx => by
 refine g9 (G) (nx) Tryz.func62 rfl (.tup (bz .v (bz .v c4))) zN (fun hlt => zH) ?_
 simp only [Tryz.ntmps62, List.length_cons, List.length_nil, Nat.reduceAdd, Nat.reduceSub]
 refine bq fun hlt => ?_
 dsimp only at hlt
 refine yS fun _ K1 => ?_
 refine yR ?_
 try dsimp only [St.put]
 refine yB rfl rfl rfl ?_
 refine yA rfl rfl ?_
 refine yA rfl rfl ?_
 refine yN ?_
 dsimp only [St.put]
 refine K1 _ ?_
 refine yS fun _ K2 => ?_
 refine yR ?_
 refine yE rfl rfl rfl ?_
 refine yM rfl rfl ?_
 try dsimp only [St.put]
 refine ae rfl (dz rfl rfl rfl (ra n p m) zG (by dsimp only [St.put]; omega) ?_)
 refine yM rfl rfl ?_
 refine yX rfl rfl rfl rfl ?_
 refine yX rfl rfl rfl rfl ?_
 refine yA rfl rfl ?_
 refine yA rfl rfl ?_
 refine yN ?_
 dsimp only [St.put]
 refine K2 _ ?_
 refine yS fun _ K3 => ?_
 refine yS fun _ K4 => ?_
 refine yR ?_
 refine yM rfl rfl ?_
 refine aa rfl (eh rfl rfl rfl) ?_
 refine yN ?_
 dsimp only [St.put]
 refine K4 _ ?_
 refine aq rfl (fun hc => ?_) (fun hc => ?_)
 ·have h0 : ed p m ≠ 0 := ji hc
  have hV : px p m = 0 := by unfold px; rw [lf h0]
  refine yS fun _ K5 => ?_
  refine yR ?_
  refine yM rfl rfl ?_
  refine yA rfl rfl ?_
  refine yA rfl rfl ?_
  refine yN ?_
  dsimp only [St.put]
  refine K5 _ ?_
  refine ar ?_
  refine jk rfl (by constructor) (by constructor) zN zS ?_ ?_
  ·exact vi hV.symm
  rfl
 have h0 : ed p m = 0 := g3 hc
 obtain ⟨hc0, j, x, rfl, hx, hpo⟩ := qo h0
 have hw := rg (fun x => (el p.text x : Int)) hx
 have hV : px p (j : Int) = (el p.text x : Int) := by unfold px; rw [h0, hpo]; rfl
 rw [s9 h0]
 refine av ?_
 refine K3 _ ?_
 refine yS fun _ K6 => ?_
 refine yR ?_
 refine yM rfl rfl ?_
 refine aa rfl (kr rfl rfl) ?_
 refine yF rfl rfl rfl rfl ?_
 refine yL rfl rfl rfl ?_
 refine yM rfl rfl ?_
 refine aa rfl (bk rfl rfl rfl rfl (bj (by assumption)) (Enc.len _)) ?_
 refine yL rfl rfl rfl ?_
 refine yA rfl rfl ?_
 refine yA rfl rfl ?_
 refine yN ?_
 dsimp only [St.put]
 refine K6 _ ?_
 refine ar ?_
 refine jk rfl (by constructor) (by constructor) zN zS ?_ ?_
 ·exact vi hV.symm
 exact vi h0.symm
theorem ucg (n : Nat) (p : af) (m : Int) : er n em Tryz.prog 64 [val p, .v (.int .i64 m)] (.tup [lst (pm p m), .v (.int .i64 (ed p m))]) := fun G nx hF hnx => by
 refine g9 (G) (nx) Tryz.func64 rfl (.tup (bz (bu _ _) (bz .v c4))) zN (fun hlt => zH) ?_
 simp only [Tryz.ntmps64, List.length_cons, List.length_nil, Nat.reduceAdd, Nat.reduceSub]
 refine bq fun hlt => ?_
 dsimp only at hlt
 refine yS fun _ K1 => ?_
 refine yR ?_
 try dsimp only [St.put]
 refine yB rfl rfl rfl ?_
 refine yA rfl rfl ?_
 refine yA rfl rfl ?_
 refine yN ?_
 dsimp only [St.put]
 refine K1 _ ?_
 refine yS fun _ K2 => ?_
 refine yR ?_
 refine yE rfl rfl rfl ?_
 refine yM rfl rfl ?_
 try dsimp only [St.put]
 refine ae rfl (dz rfl rfl rfl (ra n p m) zG (by dsimp only [St.put]; omega) ?_)
 refine yM rfl rfl ?_
 refine yX rfl rfl rfl rfl ?_
 refine yX rfl rfl rfl rfl ?_
 refine yA rfl rfl ?_
 refine yA rfl rfl ?_
 refine yN ?_
 dsimp only [St.put]
 refine K2 _ ?_
 refine yS fun _ K3 => ?_
 refine yS fun _ K4 => ?_
 refine yR ?_
 refine yM rfl rfl ?_
 refine aa rfl (eh rfl rfl rfl) ?_
 refine yN ?_
 dsimp only [St.put]
 refine K4 _ ?_
 refine aq rfl (fun hc => ?_) (fun hc => ?_)
 ·have h0 : ed p m ≠ 0 := ji hc
  have hV : pm p m = [] := by unfold pm; rw [lf h0]
  refine yS fun _ K5 => ?_
  refine yR ?_
  refine yM rfl rfl ?_
  refine yA rfl rfl ?_
  refine yA rfl rfl ?_
  refine yN ?_
  dsimp only [St.put]
  refine K5 _ ?_
  refine ar ?_
  refine gu rfl (dx (by constructor)) (dx (by constructor)) zN zS ?_ ?_
  ·rw [hV]; exact zW
  exact zW
 have h0 : ed p m = 0 := g3 hc
 obtain ⟨hc0, j, x, rfl, hx, hpo⟩ := qo h0
 have hw := rg (dg p.text) hx
 have hV : pm p (j : Int) = dg p.text x := by unfold pm; rw [h0, hpo]; rfl
 rw [s9 h0]
 refine av ?_
 refine K3 _ ?_
 refine yS fun _ K6 => ?_
 refine yR ?_
 refine yM rfl rfl ?_
 refine aa rfl (kr rfl rfl) ?_
 refine yF rfl rfl rfl rfl ?_
 refine yL rfl rfl rfl ?_
 refine yM rfl rfl ?_
 refine aa rfl (bk rfl rfl rfl rfl (bj (by assumption)) (Enc.len _)) ?_
 refine yL rfl rfl rfl ?_
 refine yA rfl rfl ?_
 refine yA rfl rfl ?_
 refine yN ?_
 dsimp only [St.put]
 refine K6 _ ?_
 refine ar ?_
 refine gu rfl (dx (by constructor)) (dx (by constructor)) zN zS ?_ ?_
 ·rw [hV]; exact zW
 rw [h0]; exact zW
theorem uj9 (n : Nat) (p : af) (m : Int) : er n em Tryz.prog 65 [val p, .v (.int .i64 m)] (.tup [lst (r5 p m), .v (.int .i64 (ed p m))]) := fun G nx hF hnx => by
 refine g9 (G) (nx) Tryz.func65 rfl (.tup (bz (bu _ _) (bz .v c4))) zN (fun hlt => zH) ?_
 simp only [Tryz.ntmps65, List.length_cons, List.length_nil, Nat.reduceAdd, Nat.reduceSub]
 refine bq fun hlt => ?_
 dsimp only at hlt
 refine yS fun _ K1 => ?_
 refine yR ?_
 try dsimp only [St.put]
 refine yB rfl rfl rfl ?_
 refine yA rfl rfl ?_
 refine yA rfl rfl ?_
 refine yN ?_
 dsimp only [St.put]
 refine K1 _ ?_
 refine yS fun _ K2 => ?_
 refine yR ?_
 refine yE rfl rfl rfl ?_
 refine yM rfl rfl ?_
 try dsimp only [St.put]
 refine ae rfl (dz rfl rfl rfl (ra n p m) zG (by dsimp only [St.put]; omega) ?_)
 refine yM rfl rfl ?_
 refine yX rfl rfl rfl rfl ?_
 refine yX rfl rfl rfl rfl ?_
 refine yA rfl rfl ?_
 refine yA rfl rfl ?_
 refine yN ?_
 dsimp only [St.put]
 refine K2 _ ?_
 refine yS fun _ K3 => ?_
 refine yS fun _ K4 => ?_
 refine yR ?_
 refine yM rfl rfl ?_
 refine aa rfl (eh rfl rfl rfl) ?_
 refine yN ?_
 dsimp only [St.put]
 refine K4 _ ?_
 refine aq rfl (fun hc => ?_) (fun hc => ?_)
 ·have h0 : ed p m ≠ 0 := ji hc
  have hV : r5 p m = [] := by unfold r5; rw [lf h0]
  refine yS fun _ K5 => ?_
  refine yR ?_
  refine yM rfl rfl ?_
  refine yA rfl rfl ?_
  refine yA rfl rfl ?_
  refine yN ?_
  dsimp only [St.put]
  refine K5 _ ?_
  refine ar ?_
  refine gu rfl (dx (by constructor)) (dx (by constructor)) zN zS ?_ ?_
  ·rw [hV]; exact zW
  exact zW
 have h0 : ed p m = 0 := g3 hc
 obtain ⟨hc0, j, x, rfl, hx, hpo⟩ := qo h0
 have hw := rg (dv p.text) hx
 have hV : r5 p (j : Int) = dv p.text x := by unfold r5; rw [h0, hpo]; rfl
 rw [s9 h0]
 refine av ?_
 refine K3 _ ?_
 refine yS fun _ K6 => ?_
 refine yR ?_
 refine yM rfl rfl ?_
 refine aa rfl (kr rfl rfl) ?_
 refine yF rfl rfl rfl rfl ?_
 refine yL rfl rfl rfl ?_
 refine yM rfl rfl ?_
 refine aa rfl (bk rfl rfl rfl rfl (bj (by assumption)) (Enc.len _)) ?_
 refine yL rfl rfl rfl ?_
 refine yA rfl rfl ?_
 refine yA rfl rfl ?_
 refine yN ?_
 dsimp only [St.put]
 refine K6 _ ?_
 refine ar ?_
 refine gu rfl (dx (by constructor)) (dx (by constructor)) zN zS ?_ ?_
 ·rw [hV]; exact zW
 rw [h0]; exact zW
theorem uj8 (n : Nat) (p : af) (b : Bool) (m : Int) : er n em Tryz.prog 29 [val p, .v (.bool b), .v (.int .i64 m)] (.tup [.v (.int .i64 (oq p b m)), .v (.int .i64 (j3 p b m))]) := fun G nx hF hnx => by
 refine g9 (G) (nx) Tryz.func29 rfl (.tup (bz .v (bz .v c4))) zN (fun hlt => zH) ?_
 simp only [Tryz.ntmps29, List.length_cons, List.length_nil, Nat.reduceAdd, Nat.reduceSub]
 refine bq fun hlt => ?_
 dsimp only at hlt
 refine yS fun _ K1 => ?_
 refine yR ?_
 try dsimp only [St.put]
 refine yB rfl rfl rfl ?_
 refine yA rfl rfl ?_
 refine yA rfl rfl ?_
 refine yN ?_
 dsimp only [St.put]
 refine K1 _ ?_
 refine yS fun _ K2 => ?_
 refine yR ?_
 refine yE rfl rfl rfl ?_
 try dsimp only [St.put]
 refine ae rfl (dz rfl rfl rfl (n2 n p) zG (by dsimp only [St.put]; omega) ?_)
 refine yM rfl rfl ?_
 refine yX rfl rfl rfl rfl ?_
 refine yX rfl rfl rfl rfl ?_
 refine yA rfl rfl ?_
 refine yA rfl rfl ?_
 refine yN ?_
 dsimp only [St.put]
 refine K2 _ ?_
 refine yS fun _ K3 => ?_
 refine yS fun _ K4 => ?_
 refine yR ?_
 refine yM rfl rfl ?_
 refine aa rfl (eh rfl rfl rfl) ?_
 refine yN ?_
 dsimp only [St.put]
 refine K4 _ ?_
 refine aq rfl (fun hc => ?_) (fun hc => ?_)
 ·have h0 : cj p ≠ 0 := ji hc
  have hE : j3 p b m = cj p := by simp [j3, h0]
  refine yS fun _ K5 => ?_
  refine yR ?_
  refine yM rfl rfl ?_
  refine yA rfl rfl ?_
  refine yA rfl rfl ?_
  refine yN ?_
  dsimp only [St.put]
  refine K5 _ ?_
  refine ar ?_
  refine jk rfl (by constructor) (by constructor) zN zS ?_ ?_
  ·exact vi (by simp [oq, atE, hE, h0])
  exact vi hE.symm
 have h0 : cj p = 0 := g3 hc
 obtain ⟨hok, _⟩ := lu h0
 have hn1 := hok.nf
 have hn2 := hok.ns
 have hsl : (di p b).length ≤ 3 := by
  cases b
  ·exact hn1
  exact hn2
 rw [vt h0]
 refine av ?_
 refine K3 _ ?_
 refine yS fun _ K6 => ?_
 refine yR ?_
 try dsimp only [St.put]
 refine aa rfl (uc2 (j := n) (k := 0) (m := 2) (sz := 3) rfl rfl zG rfl rfl (by decide) rfl) ?_
 try dsimp only [St.put]
 refine bw rfl (c := .agg (nt false)) (i3 (cs := sidL) rfl rfl (show 3 ≤ 6 by decide)) ?_
 try dsimp only [St.put]
 refine ae rfl (dt rfl ?_)
 try dsimp only [St.put]
 refine ae rfl (cx rfl rfl rfl zG rfl rfl (by rfl) ?_)
 refine yN ?_
 dsimp only [St.put]
 refine K6 _ ?_
 refine cc 13 ?_
 refine zQ ?_
 refine j0 (X := Nat) (fun wv => True) (fun wv => []) (fun wv G' => ak G nx (.box wv (nt b))) rfl ?_ ?_ ?_ ?_
 ·rintro wv hI
  exact zL
 ·rintro wv hI
  exact (by (repeat' (refine ky ?_ (by (try dsimp only); omega) ?_)); all_goals (first | exact kz zS | (repeat' (first | exact trivial | refine ⟨?_, ?_⟩ | exact .v | exact .any | refine .elem ?_ | exact bu _ _ | exact ff _ _ | exact ec _ _ | exact fh _ (by (try dsimp only); omega) | exact .box (by (try dsimp only); omega) | exact e8 | exact c4 | exact uie _ _ | refine fl ?_ ?_ | exact .arr (by (try dsimp only); omega) | exact .own (by (try dsimp only); omega) | exact .map (by (try dsimp only); omega) | exact ei _ | refine bz ?_ ?_ | exact bu _ _))))
 ·refine yS fun _ K8 => ?_
  refine yR ?_
  refine yM rfl rfl ?_
  refine yN ?_
  dsimp only [St.put]
  refine K8 _ ?_
  refine aq rfl (fun hc => ?_) (fun hc => ?_)
  ·obtain rfl : b = true := hc
   have hyes : True := trivial
   refine yR ?_
   try dsimp only [St.put]
   refine aa rfl (uc2 (j := n) (k := 1) (m := 2) (sz := 3) rfl rfl zG rfl rfl (by decide) rfl) ?_
   try dsimp only [St.put]
   refine bw rfl (d8 rfl rfl rfl) ?_
   try dsimp only [St.put]
   refine ae rfl (cx rfl rfl rfl zG rfl rfl (by rfl) ?_)
   refine yN ?_
   dsimp only [St.put]
   first
   | exact ⟨1 + 1, hyes, ⟨⟨rfl, rfl⟩, zF, zB, zN, zX⟩⟩
   | exact ⟨1, hno, ⟨⟨rfl, rfl⟩, zF, zB, zN, zX⟩⟩
  obtain rfl : b = false := hc
  have hno : True := trivial
  refine av ?_
  first
  | exact ⟨1 + 1, hyes, ⟨⟨rfl, rfl⟩, zF, zB, zN, zX⟩⟩
  | exact ⟨1, hno, ⟨⟨rfl, rfl⟩, zF, zB, zN, zX⟩⟩
 rintro wv hI
 dsimp only at hI ⊢
 refine yS fun _ K9 => ?_
 refine yS fun _ K10 => ?_
 refine yR ?_
 refine aa rfl (eo rfl rfl) ?_
 try dsimp only [St.put]
 refine bw rfl (f3 rfl rfl zG trivial (by first | rfl | assumption)) ?_
 refine yE rfl rfl rfl ?_
 try dsimp only [St.put]
 refine ae rfl (ay rfl rfl rfl (o7 b p) ?_)
 refine aa rfl (bg rfl rfl (List.length_map _)) ?_
 refine aa rfl (gn rfl rfl rfl (by omega)) ?_
 refine yM rfl rfl ?_
 try dsimp only [St.put]
 refine ae rfl (dm rfl rfl rfl (by decide) (by decide) zR (by decide) ?_)
 try dsimp only [St.put]
 refine ae rfl (ay rfl rfl rfl (mu _ _ [_]) ?_)
 refine aa rfl (dd rfl rfl) ?_
 refine yN ?_
 dsimp only [St.put]
 refine K10 _ ?_
 refine aq rfl (fun hc => ?_) (fun hc => ?_)
 ·have h1 : inB m 0 (((di p b).length : Int) - 1) = false := by rw [f8] at hc; simpa using hc
  have hE : j3 p b m = 2 := by simp [j3, h0, h1]
  refine yS fun _ K11 => ?_
  refine yR ?_
  refine yA rfl rfl ?_
  refine yA rfl rfl ?_
  refine yN ?_
  dsimp only [St.put]
  refine K11 _ ?_
  refine ar ?_
  refine jk rfl (by constructor) (by constructor) zN zS ?_ ?_
  ·exact vi (by simp [oq, atE, hE])
  exact vi hE.symm
 have h1 : inB m 0 (((di p b).length : Int) - 1) = true := by rw [f8] at hc; simpa using hc
 have hE : j3 p b m = 0 := by simp [j3, h0, h1]
 obtain ⟨j, hj⟩ : ∃ j : Nat, m = (j : Int) := ⟨m.toNat, by have := inB_true.1 h1; omega⟩
 subst hj
 have hjl : j < (di p b).length := by have := inB_true.1 h1; omega
 have hV : oq p b (j : Int) = jm p b j := by simp [oq, atE, hE]
 refine av ?_
 refine K9 _ ?_
 refine yS fun _ K12 => ?_
 refine yR ?_
 refine yM rfl rfl ?_
 try dsimp only [St.put]
 refine bw rfl (iy rfl rfl zG trivial (by rfl)) ?_
 refine yM rfl rfl ?_
 try dsimp only [St.put]
 refine ae rfl (ay rfl rfl rfl (ub9 p b j hok hjl) ?_)
 refine yM rfl rfl ?_
 refine yX rfl rfl rfl rfl ?_
 refine yX rfl rfl rfl rfl ?_
 refine yA rfl rfl ?_
 refine yA rfl rfl ?_
 refine yN ?_
 dsimp only [St.put]
 refine K12 _ ?_
 refine yS fun _ K13 => ?_
 refine yR ?_
 refine yM rfl rfl ?_
 refine yA rfl rfl ?_
 refine yA rfl rfl ?_
 refine yN ?_
 dsimp only [St.put]
 refine K13 _ ?_
 refine ar ?_
 refine jk rfl (by constructor) (by constructor) zN zS ?_ ?_
 ·exact vi hV.symm
 exact vi hE.symm
theorem uj5 (n : Nat) (p : af) (m : Int) : er n em Tryz.prog 66 [val p, .v (.int .i64 m)] (.tup [val (n9 p m), .v (.int .i64 (m7 p m))]) := fun G nx hF hnx => by
 refine g9 (G) (nx) Tryz.func66 rfl (.tup (bz (ec _ _) (bz .v c4))) zN (fun hlt => zH) ?_
 simp only [Tryz.ntmps66, List.length_cons, List.length_nil, Nat.reduceAdd, Nat.reduceSub]
 refine bq fun hlt => ?_
 dsimp only at hlt
 refine yS fun _ K1 => ?_
 refine yR ?_
 try dsimp only [St.put]
 refine yB rfl rfl rfl ?_
 try dsimp only [St.put]
 refine ae rfl (dt rfl ?_)
 refine yA rfl rfl ?_
 refine yN ?_
 dsimp only [St.put]
 refine K1 _ ?_
 refine yS fun _ K2 => ?_
 refine yR ?_
 refine yE rfl rfl rfl ?_
 refine yM rfl rfl ?_
 try dsimp only [St.put]
 refine ae rfl (dz rfl rfl rfl (ra n p m) zG (by dsimp only [St.put]; omega) ?_)
 refine yM rfl rfl ?_
 refine yX rfl rfl rfl rfl ?_
 refine yX rfl rfl rfl rfl ?_
 refine yA rfl rfl ?_
 refine yA rfl rfl ?_
 refine yN ?_
 dsimp only [St.put]
 refine K2 _ ?_
 refine yS fun _ K3 => ?_
 refine yS fun _ K4 => ?_
 refine yR ?_
 refine yM rfl rfl ?_
 refine aa rfl (eh rfl rfl rfl) ?_
 refine yN ?_
 dsimp only [St.put]
 refine K4 _ ?_
 refine aq rfl (fun hc => ?_) (fun hc => ?_)
 ·have h0 : ed p m ≠ 0 := ji hc
  have hE : m7 p m = ed p m := by unfold m7; rw [decide_eq_false h0]; rfl
  have hV : n9 p m = ⟨0, 0⟩ := by unfold n9; rw [hE, lf h0]
  refine yS fun _ K5 => ?_
  refine yR ?_
  refine aa rfl (g5 rfl rfl) ?_
  refine yM rfl rfl ?_
  try dsimp only [St.put]
  refine ae rfl (cx rfl rfl rfl zG rfl rfl (by rfl) ?_)
  refine yA rfl rfl ?_
  refine yN ?_
  dsimp only [St.put]
  refine K5 _ ?_
  refine ar ?_
  refine gu rfl (jv rfl zG (by rfl) zC rfl) (dx (by constructor)) zN zS ?_ ?_
  ·rw [hV]; exact zW
  rw [hE]; exact zW
 have h0 : ed p m = 0 := g3 hc
 obtain ⟨hc0, j, x, rfl, hx, hpo⟩ := qo h0
 obtain ⟨hok, _⟩ := lu hc0
 have hp := pageB_true.1 (hok.page j x hx)
 have hal := lg hok.text
 have hfl := lm hp.found
 have hwl := lm hp.well
 have hbl := ufa p.text x
 have hw := rg (dv p.text) hx
 rw [s9 h0]
 refine av ?_
 refine K3 _ ?_
 refine yS fun _ K6 => ?_
 refine yR ?_
 refine yM rfl rfl ?_
 refine aa rfl (kr rfl rfl) ?_
 refine yF rfl rfl rfl rfl ?_
 refine yL rfl rfl rfl ?_
 refine yM rfl rfl ?_
 refine aa rfl (bk rfl rfl rfl rfl (bj (by assumption)) (Enc.len _)) ?_
 refine yL rfl rfl rfl ?_
 refine aa rfl (bg rfl rfl (List.length_map _)) ?_
 refine yA rfl rfl ?_
 refine yN ?_
 dsimp only [St.put]
 refine K6 _ ?_
 refine yS fun _ K7 => ?_
 refine yS fun _ K8 => ?_
 refine yR ?_
 refine yM rfl rfl ?_
 refine aa rfl (fa rfl rfl rfl) ?_
 refine yN ?_
 dsimp only [St.put]
 refine K8 _ ?_
 refine aq rfl (fun hc => ?_) (fun hc => ?_)
 ·have hk : (dv p.text x).length = 0 := by have := of_decide_eq_true hc; omega
  have hE : m7 p (j : Int) = 6 := by unfold m7; rw [h0, hpo, decide_eq_true hk]; rfl
  have hV : n9 p (j : Int) = ⟨0, 0⟩ := by unfold n9; rw [hE, lf (by decide)]
  refine yS fun _ K9 => ?_
  refine yR ?_
  refine aa rfl (g5 rfl rfl) ?_
  try dsimp only [St.put]
  refine ae rfl (cx rfl rfl rfl zG rfl rfl (by rfl) ?_)
  refine yA rfl rfl ?_
  refine yN ?_
  dsimp only [St.put]
  refine K9 _ ?_
  refine ar ?_
  refine gu rfl (jv rfl zG (by rfl) zC rfl) (dx (by constructor)) zN zS ?_ ?_
  ·rw [hV]; exact zW
  rw [hE]; exact zW
 have hk : ¬ (dv p.text x).length = 0 := by have := of_decide_eq_false hc; omega
 obtain ⟨hE, hV⟩ := ume h0 hpo rfl hk
 have hfw : x.found.length * x.well.length ≤ 600 * 600 := Nat.mul_le_mul (by omega) (by omega)
 have hfc := Int.natCast_mul x.found.length x.well.length
 have hjl := (List.getElem?_eq_some_iff.1 hx).1
 refine av ?_
 refine K7 _ ?_
 refine yS fun _ K10 => ?_
 refine f9 [(0, none), (1, none), (2, none), (3, none), (4, none), (5, none), (6, none), (7, none), (8, none), (9, none), (10, none), (11, none), (12, none), (13, none), (14, none), (15, none)] (fun i => [].contains i) (fun i => [].contains i) (fun i => [0, 2, 3, 4, 6, 7, 9, 10, 11, 13, 14, 15].contains i) [] (by kernel_rfl) (by kernel_rfl) ?_
 refine ah rfl rfl rfl rfl (ca rfl rfl rfl) ?_
 try dsimp only [St.put]
 refine ax rfl rfl rfl rfl (bv rfl rfl) ?_
 refine xM rfl rfl rfl rfl rfl ?_
 try dsimp only [St.put]
 refine ah rfl rfl rfl rfl (bk rfl rfl rfl rfl (bj (by assumption)) (Enc.len _)) ?_
 refine ah rfl rfl rfl rfl (ca rfl rfl rfl) ?_
 try dsimp only [St.put]
 refine ax rfl rfl rfl rfl (bv rfl rfl) ?_
 refine ah rfl rfl rfl rfl (bg rfl rfl (List.length_map _)) ?_
 refine ah rfl rfl rfl rfl (ca rfl rfl rfl) ?_
 try dsimp only [St.put]
 refine ax rfl rfl rfl rfl (bv rfl rfl) ?_
 refine xM rfl rfl rfl rfl rfl ?_
 try dsimp only [St.put]
 refine ah rfl rfl rfl rfl (bk rfl rfl rfl rfl (bj (by assumption)) (Enc.len _)) ?_
 refine ah rfl rfl rfl rfl (ca rfl rfl rfl) ?_
 try dsimp only [St.put]
 refine ax rfl rfl rfl rfl (bv rfl rfl) ?_
 refine ah rfl rfl rfl rfl (bg rfl rfl (List.length_map _)) ?_
 refine ah rfl rfl rfl rfl (tn rfl rfl rfl (by omega)) ?_
 refine ah rfl rfl rfl rfl (fb rfl (by constructor)) ?_
 refine cg ?_
 dsimp only [St.put]
 rw [show (x.found.length : Int) * (x.well.length : Int) = ((x.found.length * x.well.length : Nat) : Int) from hfc.symm]
 obtain ⟨M, hM⟩ : ∃ M, x.found.length * x.well.length = M := ⟨_, rfl⟩
 obtain ⟨K, hK⟩ : ∃ K, (dv p.text x).length = K := ⟨_, rfl⟩
 have hV2 : n9 p (j : Int) = ⟨(M : Int) / (K : Int), ((M : Int) + (K : Int) - 1) / (K : Int)⟩ := by
  rw [hV]
  unfold za
  rw [hM, hK, Int.natCast_ediv, Int.natCast_ediv, show ((M + K - 1 : Nat) : Int) = (M : Int) + (K : Int) - 1 by omega]
 rw [hM] at hfw
 rw [hK] at hk hbl
 rw [hM, hK]
 refine K10 _ ?_
 refine yS fun _ K11 => ?_
 refine f9 [(0, none), (1, none), (2, none), (3, none), (4, none), (5, none), (6, none), (7, none), (8, none), (9, none), (10, none), (11, none)] (fun i => [10].contains i) (fun i => [10].contains i) (fun i => [0, 1, 2, 3, 4, 5, 6, 7, 8, 9, 11].contains i) [] (by kernel_rfl) (by kernel_rfl) ?_
 refine xM rfl rfl rfl rfl rfl ?_
 refine xM rfl rfl rfl rfl rfl ?_
 refine ah rfl rfl rfl rfl (tm rfl rfl rfl (by omega) (by omega)) ?_
 refine xM rfl rfl rfl rfl rfl ?_
 refine xM rfl rfl rfl rfl rfl ?_
 refine ah rfl rfl rfl rfl (bn rfl rfl rfl (by omega)) ?_
 refine ah rfl rfl rfl rfl (gn rfl rfl rfl (by omega)) ?_
 refine xM rfl rfl rfl rfl rfl ?_
 refine ah rfl rfl rfl rfl (tm rfl rfl rfl (by omega) (by omega)) ?_
 refine ah rfl rfl rfl rfl (g5 rfl rfl) ?_
 refine ip ?_
 try dsimp only [St.put]
 refine gl rfl rfl rfl rfl (cx rfl rfl rfl zG rfl rfl (by rfl) ?_)
 refine dw rfl rfl rfl rfl (fb rfl (by constructor)) ?_
 refine io ?_
 dsimp only [St.put]
 refine K11 _ ?_
 refine ar ?_
 refine gu rfl (jv rfl zG (by rfl) zC rfl) (dx (by constructor)) zN zS ?_ ?_
 ·rw [hV2]; exact zW
 rw [hE]; exact zW
end Go.Proofs.YtbbdginipiljdaaGreatDoor
namespace Go.AB
open Go Go.RowKit
open Go.AB.Enc (cells)
open Go.PB (aw ai PlaceD bc bf bd bl am af ck bi cy c6)
/-- who has read a page, of some sides -/
def o9 (p : af) (x : am) : Nat → List Int
 | 0 => []
 | k + 1 => o9 p x k ++ bif decide (0 ≤ du (decide (k = 1)) x) then [(sdN p k : Int) + du (decide (k = 1)) x] else []
theorem ujc (p : af) (x : am) : o9 p x 2 = dh p x := by
 show ([] ++ bif decide (0 ≤ x.fst) then [((0 : Nat) : Int) + x.fst] else []) ++ (bif decide (0 ≤ x.snd) then [(p.firsts.length : Int) + x.snd] else []) = dh p x
 rw [List.nil_append, show ((0 : Nat) : Int) + x.fst = x.fst by omega]
 rfl
theorem ubw (p : af) (x : am) : ∀ k, (o9 p x k).length ≤ k
 | 0 => Nat.le_refl _
 | k + 1 => by
  have := ubw p x k
  simp only [o9, List.length_append]
  cases decide (0 ≤ du (decide (k = 1)) x)
  ·rw [cond_false]; simp; omega
  rw [cond_true]; simp; omega
theorem ulc {α β : Type} {l : List α} {j : Nat} {x : α} (f : α → β) (h : l[j]? = some x) : (l.take (j + 1)).map f = (l.take j).map f ++ [f x] := by rw [List.take_add_one, h, Option.toList_some, List.map_append]; rfl
theorem uls {p : af} : (!(bp (bx p) (ci p)).any fun n => decide (n < 0)) = gx p := by
 rw [Bool.eq_iff_iff, Bool.not_eq_true', ← Bool.not_eq_true, List.any_eq_true]
 unfold gx bp
 rw [List.all_eq_true]
 constructor
 ·intro h i hi
  refine decide_eq_true ?_
  rcases Int.lt_or_le (ci p i) 0 with q | q
  ·exact absurd ⟨_, List.mem_map.2 ⟨i, hi, rfl⟩, decide_eq_true q⟩ h
  exact q
 rintro h ⟨z, hz, hl⟩
 obtain ⟨i, hi, rfl⟩ := List.mem_map.1 hz
 have := of_decide_eq_true (h i hi)
 have := of_decide_eq_true hl
 omega
end Go.AB
namespace Go.Proofs.YtbbdginipiljdaaGreatDoor
set_option maxRecDepth 10000
open Go Go.RowKit Go.AB
open Go.AB.Enc (cells)
open Go.PB (aw ai PlaceD bc bf bd bl am af ck bi cy c6)
theorem uiy (z : Int) : Pure Tryz.prog 98 [.v (.int .i64 z)] (.v (.bool (decide (z < 0)))) := by
 refine cn Tryz.func98 rfl (fun m => .v) fun G nx => ?_
 simp only [Tryz.ntmps98, List.length_cons, List.length_nil, Nat.reduceAdd, Nat.reduceSub]
 refine bq fun hlt => ?_
 dsimp only at hlt
 refine yS fun _ K1 => ?_
 refine yR ?_
 refine yA rfl rfl ?_
 refine yN ?_
 dsimp only [St.put]
 refine K1 _ ?_
 refine yS fun _ K2 => ?_
 refine yR ?_
 refine yM rfl rfl ?_
 refine aa rfl (ce rfl rfl rfl) ?_
 refine yA rfl rfl ?_
 refine yN ?_
 dsimp only [St.put]
 refine K2 _ ?_
 refine ar ?_
 refine az rfl (by constructor) zN zS ?_
 rfl
theorem ulp (p : af) : Pure Tryz.prog 97 [.elem (j4 p)] (.fn (.func 110) [.elem [.elem (j4 p)]]) := by
 refine cn Tryz.func97 rfl (fun m => (.fn (bz (.elem (bz (.elem (bz (bu _ _) (bz (bu _ _) (bz (bu _ _) (bz (bu _ _) (bz (bu _ _) (bz (bu _ _) (bz (bu _ _) c4)))))))) c4)) c4))) fun G nx => ?_
 simp only [Tryz.ntmps97, List.length_cons, List.length_nil, Nat.reduceAdd, Nat.reduceSub]
 refine bq fun hlt => ?_
 dsimp only at hlt
 refine yS fun _ K1 => ?_
 refine yR ?_
 try dsimp only [St.put]
 refine yB rfl rfl rfl ?_
 refine yA rfl rfl ?_
 refine yN ?_
 dsimp only [St.put]
 refine K1 _ ?_
 refine yS fun _ K2 => ?_
 refine yR ?_
 refine aa rfl (qa rfl rfl) ?_
 refine yA rfl rfl ?_
 refine yN ?_
 dsimp only [St.put]
 refine K2 _ ?_
 refine ar ?_
 refine az rfl (by constructor) zN zS ?_
 rfl
set_option maxHeartbeats 2000000 in
theorem uj1 (n : Nat) (p : af) (h : eb p) : er n em Tryz.prog 79 [.elem (j4 p)] (.tup [val (f4 p (ci p) (cp p)), .v (.bool (gx p))]) := fun G nx hF hnx => by
 refine g9 (G) (nx) Tryz.func79 rfl (.tup (bz (ec _ _) (bz .v c4))) zN (fun hlt => zH) ?_
 simp only [Tryz.ntmps79, List.length_cons, List.length_nil, Nat.reduceAdd, Nat.reduceSub]
 refine bq fun hlt => ?_
 dsimp only at hlt
 have hn1 := h.nf
 have hn2 := h.ns
 have hnp := h.np
 have hnr : bx p = p.firsts.length + p.seconds.length := rfl
 have hal := lg h.text
 refine yS fun _ K1 => ?_
 refine yR ?_
 try dsimp only [St.put]
 refine ae rfl (dt rfl ?_)
 refine yA rfl rfl ?_
 refine yN ?_
 dsimp only [St.put]
 refine K1 _ ?_
 refine yS fun _ K2 => ?_
 refine yR ?_
 try dsimp only [St.put]
 refine ae rfl (dt rfl ?_)
 refine yN ?_
 dsimp only [St.put]
 refine K2 _ ?_
 refine r6 (nx + 1) 0 _ _ 3 1 zG rfl (by decide) ?_
 refine r6 (nx + 1) 1 _ _ 3 1 zG rfl (by decide) ?_
 refine r6 (nx + 1) 2 _ _ 40 1 zG rfl (by decide) ?_
 dsimp only [List.set_cons_zero, List.set_cons_succ]
 refine yS fun _ K3 => ?_
 refine yS fun _ K4 => ?_
 refine yR ?_
 refine yM rfl rfl ?_
 try dsimp only [St.put]
 refine ae rfl (ay rfl rfl rfl (ulp p) ?_)
 refine yN ?_
 dsimp only [St.put]
 refine K4 _ ?_
 refine ba ?_
 refine cc 15 ?_
 refine zQ ?_
 refine cr ((ak (ak (ak (ak (ak G nx (.box 0 [.list [] .nil, .list [] .nil, .list [] .nil])) (nx + 1) (.box (0) [.list ((bp 0 (ci p)).map cells) (.tip (nx + 1 + 1)), .list ((bp 0 (cp p)).map cells) (.tip (nx + 1 + 1 + 1)), .list (((p.pages.take 0).map (dh p)).map cells) (.tip (nx + 1 + 1 + 1 + 1))])) (nx + 1 + 1) (.tip (bp 0 (ci p)).length 3 1)) (nx + 1 + 1 + 1) (.tip (bp 0 (cp p)).length 3 1)) (nx + 1 + 1 + 1 + 1) (.tip ((p.pages.take 0).map (dh p)).length 40 1))) zX ?_
 dsimp only
 refine ufl [15] (fun k => (ak (ak (ak (ak (ak G nx (.box 0 [.list [] .nil, .list [] .nil, .list [] .nil])) (nx + 1) (.box (k) [.list ((bp k (ci p)).map cells) (.tip (nx + 1 + 1)), .list ((bp 0 (cp p)).map cells) (.tip (nx + 1 + 1 + 1)), .list (((p.pages.take 0).map (dh p)).map cells) (.tip (nx + 1 + 1 + 1 + 1))])) (nx + 1 + 1) (.tip (bp k (ci p)).length 3 1)) (nx + 1 + 1 + 1) (.tip (bp 0 (cp p)).length 3 1)) (nx + 1 + 1 + 1 + 1) (.tip ((p.pages.take 0).map (dh p)).length 40 1))) (fun k => [(15, .v (.int .i64 (ci p k)))]) (ulq n p h) (fun k => zG) (by (try dsimp only); omega) rfl rfl (fun _ => rfl) ?_ ?_ ?_ (fun lr k hrk => ?_) ?_
 ·intro k
  rfl
 ·exact zX
 ·intro k
  exact zH
 ·have hll := gd k (ci p)
  refine yR ?_
  refine yA rfl rfl ?_
  refine yN ?_
  dsimp only [St.put]
  show AW _ _ _ _ _
  refine ba ?_
  refine yR ?_
  refine aa rfl (eo rfl rfl) ?_
  try dsimp only [St.put]
  refine bw rfl (f3 rfl rfl zG trivial (by first | rfl | assumption)) ?_
  refine yM rfl rfl ?_
  try dsimp only [St.put]
  refine ae rfl (dm rfl rfl rfl (by decide) (by decide) zR (by decide) ?_)
  try dsimp only [St.put]
  refine ae rfl (jt ([ci p k]) rfl rfl zG zE rfl rfl zA ?_ zA)
  refine aa rfl (eo rfl rfl) ?_
  try dsimp only [St.put]
  refine ae rfl (kb rfl rfl rfl zG (by constructor) rfl zO ?_)
  refine yN ?_
  dsimp only [St.put]
  rw [← sr k (ci p)]
  exact zX
 dsimp only
 refine K3 _ ?_
 refine yS fun _ K5 => ?_
 refine yS fun _ K6 => ?_
 refine yR ?_
 refine yM rfl rfl ?_
 refine aa rfl (kr rfl rfl) ?_
 refine yF rfl rfl rfl rfl ?_
 refine yF rfl rfl rfl rfl ?_
 refine yL rfl rfl rfl ?_
 refine aa rfl (bg rfl rfl (List.length_map _)) ?_
 refine yM rfl rfl ?_
 refine yN ?_
 dsimp only [St.put]
 refine K6 _ ?_
 refine ba ?_
 refine cc 29 ?_
 refine zQ ?_
 refine cr ((ak (ak (ak (ak (ak G nx (.box 0 [.list [] .nil, .list [] .nil, .list [] .nil])) (nx + 1) (.box ((bx p)) [.list ((bp (bx p) (ci p)).map cells) (.tip (nx + 1 + 1)), .list ((bp 0 (cp p)).map cells) (.tip (nx + 1 + 1 + 1)), .list (((p.pages.take 0).map (dh p)).map cells) (.tip (nx + 1 + 1 + 1 + 1))])) (nx + 1 + 1) (.tip (bp (bx p) (ci p)).length 3 1)) (nx + 1 + 1 + 1) (.tip (bp 0 (cp p)).length 3 1)) (nx + 1 + 1 + 1 + 1) (.tip ((p.pages.take 0).map (dh p)).length 40 1))) zX ?_
 dsimp only
 refine cv (X := Nat) (fun j => j ≤ p.pages.length) (fun j => p.pages.length - j) (fun j => [(6, .any), (7, .any), (8, .any), (9, .any), (10, .any), (11, .any), (12, .any), (28, .v (.int .i64 (j : Int)))]) (fun j G' => (ak (ak (ak (ak (ak G nx (.box 0 [.list [] .nil, .list [] .nil, .list [] .nil])) (nx + 1) (.box ((bx p + 2 * j)) [.list ((bp (bx p) (ci p)).map cells) (.tip (nx + 1 + 1)), .list ((bp j (cp p)).map cells) (.tip (nx + 1 + 1 + 1)), .list (((p.pages.take j).map (dh p)).map cells) (.tip (nx + 1 + 1 + 1 + 1))])) (nx + 1 + 1) (.tip (bp (bx p) (ci p)).length 3 1)) (nx + 1 + 1 + 1) (.tip (bp j (cp p)).length 3 1)) (nx + 1 + 1 + 1 + 1) (.tip ((p.pages.take j).map (dh p)).length 40 1))) 0 rfl ?_ ?_ ?_ ?_ ?_ ?_
 ·exact Nat.zero_le _
 ·exact zF
 ·exact zX
 ·rintro j hI
  exact zL
 ·rintro j hI
  exact zH
 rintro j hJ
 dsimp only at hJ ⊢
 refine yS fun _ K7 => ?_
 refine yR ?_
 refine aa rfl (ce rfl rfl rfl) ?_
 refine yN ?_
 dsimp only [St.put]
 refine K7 _ ?_
 refine yS fun _ K8 => ?_
 refine aq rfl (fun hc => ?_) (fun hc => ?_)
 ·replace hc := of_decide_eq_true hc
  obtain ⟨x, hx⟩ : ∃ x, p.pages[j]? = some x := cw (by omega)
  have hw1 : (p.pages.map fun x => (el p.text x : Int))[j]? = some (el p.text x : Int) := rg (fun x => (el p.text x : Int)) hx
  have hw2 := rg (dg p.text) hx
  have hgl := rt p.text x
  have hwx := uv p.text x
  have hll := gd j (cp p)
  have hp := pageB_true.1 (h.page j x hx)
  have hp1 := hp.fst
  have hp2 := hp.snd
  have hll2 : ((p.pages.take j).map (dh p)).length ≤ 8 := by rw [List.length_map, List.length_take]; omega
  refine av ?_
  refine K8 _ ?_
  refine yS fun _ K9 => ?_
  refine ba ?_
  refine yS fun _ K10 => ?_
  refine yR ?_
  refine yM rfl rfl ?_
  refine aa rfl (bk rfl rfl rfl rfl (bj (by assumption)) (Enc.len _)) ?_
  refine yE rfl rfl rfl ?_
  try dsimp only [St.put]
  refine ae rfl (dt rfl ?_)
  refine yA rfl rfl ?_
  try dsimp only [St.put]
  refine ae rfl (cx rfl rfl rfl zG rfl rfl (by rfl) ?_)
  refine yN ?_
  dsimp only [St.put]
  refine K10 _ ?_
  refine fu (i := 7) rfl zG zC ?_
  dsimp only
  refine yS fun _ K11 => ?_
  refine f9 [(0, none), (1, none), (2, none), (3, none), (4, none), (5, none), (6, none), (7, none), (8, none), (9, none), (10, none), (11, none), (12, none), (13, none), (14, none), (15, none), (16, none), (17, none), (18, none), (19, none), (20, none), (21, none)] (fun i => [19, 21].contains i) (fun i => [18, 19, 21].contains i) (fun i => [0, 2, 3, 4, 6, 7, 9, 10, 11, 13, 14, 16, 17, 20].contains i) [nx + 1] (by kernel_rfl) (by kernel_rfl) ?_
  refine ah rfl rfl rfl rfl (eo rfl rfl) ?_
  try dsimp only [St.put]
  refine ax rfl rfl rfl rfl (f3 rfl rfl zG (by simp) (by first | rfl | assumption)) ?_
  refine xM rfl rfl rfl rfl rfl ?_
  refine ah rfl rfl rfl rfl (kr rfl rfl) ?_
  refine ah rfl rfl rfl rfl (ca rfl rfl rfl) ?_
  try dsimp only [St.put]
  refine ax rfl rfl rfl rfl (bv rfl rfl) ?_
  refine xM rfl rfl rfl rfl rfl ?_
  try dsimp only [St.put]
  refine ah rfl rfl rfl rfl (bk rfl rfl rfl rfl (bj (by assumption)) (Enc.len _)) ?_
  try dsimp only [St.put]
  refine ax rfl rfl rfl rfl (bv rfl rfl) ?_
  refine xM rfl rfl rfl rfl rfl ?_
  refine ah rfl rfl rfl rfl (kr rfl rfl) ?_
  refine ah rfl rfl rfl rfl (ca rfl rfl rfl) ?_
  try dsimp only [St.put]
  refine ax rfl rfl rfl rfl (bv rfl rfl) ?_
  refine xM rfl rfl rfl rfl rfl ?_
  try dsimp only [St.put]
  refine ah rfl rfl rfl rfl (bk rfl rfl rfl rfl (bj (by assumption)) (Enc.len _)) ?_
  try dsimp only [St.put]
  refine ax rfl rfl rfl rfl (bv rfl rfl) ?_
  refine ah rfl rfl rfl rfl (bg rfl rfl (List.length_map _)) ?_
  refine ah rfl rfl rfl rfl (gn rfl rfl rfl (by omega)) ?_
  refine ip ?_
  try dsimp only [St.put]
  refine i7 rfl rfl rfl (dm rfl rfl rfl (by decide) (by decide) zR (by decide) ⟨zD, ?_⟩)
  try dsimp only [St.put]
  refine gl rfl rfl rfl rfl (jt ([(el p.text x : Int) - ((dg p.text x).length : Int)]) rfl rfl zG zE rfl rfl zA ?_ zA)
  refine dw rfl rfl rfl rfl (eo rfl rfl) ?_
  try dsimp only [St.put]
  refine gl rfl rfl rfl rfl (kb rfl rfl rfl zG (by constructor) rfl zO ?_)
  refine io ?_
  dsimp only [St.put]
  have e := sr j (cp p)
  rw [show cp p j = (el p.text x : Int) - ((dg p.text x).length : Int) from pc hx _] at e
  simp only [← e]
  refine K11 _ ?_
  refine yS fun _ K12 => ?_
  refine yR ?_
  refine yA rfl rfl ?_
  refine yN ?_
  dsimp only [St.put]
  refine K12 _ ?_
  refine ng 8 3 1 rfl (by decide) ?_
  dsimp only [List.set_cons_zero, List.set_cons_succ]
  refine yS fun _ K13 => ?_
  refine yR ?_
  refine yA rfl rfl ?_
  refine yN ?_
  dsimp only [St.put]
  refine K13 _ ?_
  refine yS fun _ K14 => ?_
  refine yS fun _ K15 => ?_
  refine yR ?_
  try dsimp only [St.put]
  refine bw rfl (mq (n := 6) (m := n) rfl rfl zG rfl) ?_
  refine yM rfl rfl ?_
  refine yN ?_
  dsimp only [St.put]
  refine K15 _ ?_
  refine ba ?_
  refine cc 56 ?_
  refine zQ ?_
  refine cr (ak ((ak (ak (ak (ak (ak G nx (.box 0 [.list [] .nil, .list [] .nil, .list [] .nil])) (nx + 1) (.box ((bx p + 2 * j + 1)) [.list ((bp (bx p) (ci p)).map cells) (.tip (nx + 1 + 1)), .list ((bp (j + 1) (cp p)).map cells) (.tip (nx + 1 + 1 + 1)), .list (((p.pages.take j).map (dh p)).map cells) (.tip (nx + 1 + 1 + 1 + 1))])) (nx + 1 + 1) (.tip (bp (bx p) (ci p)).length 3 1)) (nx + 1 + 1 + 1) (.tip (bp (j + 1) (cp p)).length 3 1)) (nx + 1 + 1 + 1 + 1) (.tip ((p.pages.take j).map (dh p)).length 40 1))) (nx + 1 + 1 + 1 + 1 + 1 + 1) (.tip 0 3 1)) zX ?_
  dsimp only
  refine cv (X := Nat) (fun k => k ≤ 2) (fun k => 2 - k) (fun k => [(8, .list ((o9 p x k).map cells) (.tip (nx + 1 + 1 + 1 + 1 + 1 + 1))), (9, .v (.int .i64 (sdN p k : Int))), (11, .any), (12, .any), (55, .v (.int .i64 (k : Int)))]) (fun k G' => ak ((ak (ak (ak (ak (ak G nx (.box 0 [.list [] .nil, .list [] .nil, .list [] .nil])) (nx + 1) (.box ((bx p + 2 * j + 1)) [.list ((bp (bx p) (ci p)).map cells) (.tip (nx + 1 + 1)), .list ((bp (j + 1) (cp p)).map cells) (.tip (nx + 1 + 1 + 1)), .list (((p.pages.take j).map (dh p)).map cells) (.tip (nx + 1 + 1 + 1 + 1))])) (nx + 1 + 1) (.tip (bp (bx p) (ci p)).length 3 1)) (nx + 1 + 1 + 1) (.tip (bp (j + 1) (cp p)).length 3 1)) (nx + 1 + 1 + 1 + 1) (.tip ((p.pages.take j).map (dh p)).length 40 1))) (nx + 1 + 1 + 1 + 1 + 1 + 1) (.tip (o9 p x k).length 3 1)) 0 rfl ?_ ?_ ?_ ?_ ?_ ?_
  ·exact Nat.zero_le _
  ·exact zF
  ·exact zX
  ·rintro k hI
   exact zL
  ·rintro k hI
   exact zH
  rintro k hK
  dsimp only at hK ⊢
  refine yS fun _ K16 => ?_
  refine yR ?_
  refine aa rfl (ce rfl rfl rfl) ?_
  refine yN ?_
  dsimp only [St.put]
  refine K16 _ ?_
  refine yS fun _ K17 => ?_
  refine aq rfl (fun hc => ?_) (fun hc => ?_)
  ·replace hc := of_decide_eq_true hc
   have hk : k < 2 := by omega
   have hsd : sdN p k ≤ 3 ∧ (di p (decide (k = 1))).length ≤ 3 ∧ -1 ≤ du (decide (k = 1)) x ∧ du (decide (k = 1)) x ≤ 3 := by
    have : k = 0 ∨ k = 1 := by omega
    rcases this with rfl | rfl
    ·exact ⟨Nat.zero_le _, hn1, by show -1 ≤ x.fst; omega, by show x.fst ≤ 3; omega⟩
    exact ⟨hn1, hn2, by show -1 ≤ x.snd; omega, by show x.snd ≤ 3; omega⟩
   have hst : o9 p x (k + 1) = o9 p x k ++ bif decide (0 ≤ du (decide (k = 1)) x) then [(sdN p k : Int) + du (decide (k = 1)) x] else [] := rfl
   have hrl := ubw p x k
   refine av ?_
   refine K17 _ ?_
   refine yS fun _ K18 => ?_
   refine ba ?_
   refine yS fun _ K19 => ?_
   refine yR ?_
   refine aa rfl (vx (k := k) (m := 2) (sz := 3) rfl rfl rfl rfl hk (ve hk)) ?_
   try dsimp only [St.put]
   refine ae rfl (dt rfl ?_)
   try dsimp only [St.put]
   refine ae rfl (cx rfl rfl rfl zG rfl rfl (by rfl) ?_)
   refine yN ?_
   dsimp only [St.put]
   refine K19 _ ?_
   refine fu (i := 11) rfl zG zC ?_
   dsimp only
   refine yS fun _ K20 => ?_
   refine yS fun _ K21 => ?_
   refine yR ?_
   refine yF rfl rfl rfl rfl ?_
   refine yL rfl rfl rfl ?_
   refine yE rfl rfl rfl ?_
   try dsimp only [St.put]
   refine ae rfl (ay rfl rfl rfl (xw (decide (k = 1)) x) ?_)
   refine yA rfl rfl ?_
   refine yN ?_
   dsimp only [St.put]
   refine K21 _ ?_
   refine yS fun _ K22 => ?_
   refine yR ?_
   refine yM rfl rfl ?_
   refine aa rfl (mz rfl rfl rfl) ?_
   refine yN ?_
   dsimp only [St.put]
   refine K22 _ ?_
   refine aq rfl (fun hc => ?_) (fun hc => ?_)
   ·have hyes : 0 ≤ du (decide (k = 1)) x := of_decide_eq_true hc
    refine yR ?_
    refine yM rfl rfl ?_
    refine yM rfl rfl ?_
    refine yM rfl rfl ?_
    refine aa rfl (bn rfl rfl rfl (by omega)) ?_
    try dsimp only [St.put]
    refine ae rfl (dm rfl rfl rfl (by decide) (by decide) zR (by decide) ?_)
    try dsimp only [St.put]
    refine ae rfl (jt ([(sdN p k : Int) + du (decide (k = 1)) x]) rfl rfl zG zE rfl rfl zA ?_ zA)
    refine yA rfl rfl ?_
    refine yN ?_
    dsimp only [St.put]
    refine K20 _ ?_
    refine f9 [(0, none), (1, none), (2, none), (3, none), (4, none), (5, none), (6, none), (7, none), (8, none), (9, none), (10, none)] (fun i => [7].contains i) (fun i => [7].contains i) (fun i => [0, 1, 3, 4, 5, 8, 9, 10].contains i) [] (by kernel_rfl) (by kernel_rfl) ?_
    refine xM rfl rfl rfl rfl rfl ?_
    refine ah rfl rfl rfl rfl (ca rfl rfl rfl) ?_
    try dsimp only [St.put]
    refine ax rfl rfl rfl rfl (bv rfl rfl) ?_
    refine xM rfl rfl rfl rfl rfl ?_
    refine ah rfl rfl rfl rfl (kr rfl rfl) ?_
    refine ah rfl rfl rfl rfl (ca rfl rfl rfl) ?_
    try dsimp only [St.put]
    refine ax rfl rfl rfl rfl (c := val p) (i3 (cs := j4 p) rfl rfl (show 4 ≤ 7 by decide)) ?_
    refine ip ?_
    try dsimp only [St.put]
    refine gl rfl rfl rfl rfl (ay rfl rfl rfl (o7 (decide (k = 1)) p) ?_)
    refine dw rfl rfl rfl rfl (bg rfl rfl (List.length_map _)) ?_
    refine dw rfl rfl rfl rfl (bn rfl rfl rfl (by omega)) ?_
    refine dw rfl rfl rfl rfl (fb rfl (by constructor)) ?_
    refine io ?_
    dsimp only [St.put]
    refine K18 _ ?_
    refine yR ?_
    refine aa rfl (bn rfl rfl rfl (by omega)) ?_
    refine yM rfl rfl ?_
    refine yN ?_
    dsimp only [St.put]
    rw [show ((sdN p k : Nat) : Int) + ((di p (decide (k = 1))).length : Int) = ((sdN p (k + 1) : Nat) : Int) by rw [xv hk]; omega]
    first
    | (have z : 0 ≤ du (decide (k = 1)) x := hyes
       rw [decide_eq_true z, cond_true] at hst
       rw [← hst]
       exact ⟨k + 1, by omega, by omega, ⟨⟨rfl, rfl⟩, zF, zB, zN, zX⟩⟩)
    | (have z : ¬ 0 ≤ du (decide (k = 1)) x := hno
       rw [decide_eq_false z, cond_false, List.append_nil] at hst
       rw [← hst]
       exact ⟨k + 1, by omega, by omega, ⟨⟨rfl, rfl⟩, zF, zB, zN, zX⟩⟩)
   have hno : ¬ 0 ≤ du (decide (k = 1)) x := of_decide_eq_false hc
   refine av ?_
   refine K20 _ ?_
   refine f9 [(0, none), (1, none), (2, none), (3, none), (4, none), (5, none), (6, none), (7, none), (8, none), (9, none), (10, none)] (fun i => [7].contains i) (fun i => [7].contains i) (fun i => [0, 1, 3, 4, 5, 8, 9, 10].contains i) [] (by kernel_rfl) (by kernel_rfl) ?_
   refine xM rfl rfl rfl rfl rfl ?_
   refine ah rfl rfl rfl rfl (ca rfl rfl rfl) ?_
   try dsimp only [St.put]
   refine ax rfl rfl rfl rfl (bv rfl rfl) ?_
   refine xM rfl rfl rfl rfl rfl ?_
   refine ah rfl rfl rfl rfl (kr rfl rfl) ?_
   refine ah rfl rfl rfl rfl (ca rfl rfl rfl) ?_
   try dsimp only [St.put]
   refine ax rfl rfl rfl rfl (c := val p) (i3 (cs := j4 p) rfl rfl (show 4 ≤ 7 by decide)) ?_
   refine ip ?_
   try dsimp only [St.put]
   refine gl rfl rfl rfl rfl (ay rfl rfl rfl (o7 (decide (k = 1)) p) ?_)
   refine dw rfl rfl rfl rfl (bg rfl rfl (List.length_map _)) ?_
   refine dw rfl rfl rfl rfl (bn rfl rfl rfl (by omega)) ?_
   refine dw rfl rfl rfl rfl (fb rfl (by constructor)) ?_
   refine io ?_
   dsimp only [St.put]
   refine K18 _ ?_
   refine yR ?_
   refine aa rfl (bn rfl rfl rfl (by omega)) ?_
   refine yM rfl rfl ?_
   refine yN ?_
   dsimp only [St.put]
   rw [show ((sdN p k : Nat) : Int) + ((di p (decide (k = 1))).length : Int) = ((sdN p (k + 1) : Nat) : Int) by rw [xv hk]; omega]
   first
   | (have z : 0 ≤ du (decide (k = 1)) x := hyes
      rw [decide_eq_true z, cond_true] at hst
      rw [← hst]
      exact ⟨k + 1, by omega, by omega, ⟨⟨rfl, rfl⟩, zF, zB, zN, zX⟩⟩)
   | (have z : ¬ 0 ≤ du (decide (k = 1)) x := hno
      rw [decide_eq_false z, cond_false, List.append_nil] at hst
      rw [← hst]
      exact ⟨k + 1, by omega, by omega, ⟨⟨rfl, rfl⟩, zF, zB, zN, zX⟩⟩)
  replace hc := of_decide_eq_false hc
  obtain rfl : k = 2 := by omega
  rw [ujc]
  refine w5 8 (lst (dh p x)) rfl Wk.tok ?_
  refine co ?_
  refine K14 _ ?_
  refine yR ?_
  refine aa rfl (eo rfl rfl) ?_
  try dsimp only [St.put]
  refine bw rfl (f3 rfl rfl zG trivial (by first | rfl | assumption)) ?_
  refine yM rfl rfl ?_
  try dsimp only [St.put]
  refine ae rfl (dm rfl rfl rfl (by decide) (by decide) zR (by decide) ?_)
  try dsimp only [St.put]
  refine ae rfl (jt ([dh p x]) rfl rfl zG zE rfl rfl zA ?_ zA)
  refine aa rfl (eo rfl rfl) ?_
  try dsimp only [St.put]
  refine ae rfl (kb rfl rfl rfl zG (by constructor) rfl zO ?_)
  refine yN ?_
  dsimp only [St.put]
  refine K9 _ ?_
  refine yR ?_
  refine aa rfl (bn rfl rfl rfl (by omega)) ?_
  refine yM rfl rfl ?_
  refine yN ?_
  dsimp only [St.put]
  have e2 := ulc (dh p) hx
  simp only [← e2]
  exact ⟨j + 1, by omega, by omega, ⟨⟨rfl, rfl⟩, zF, zB, zN, zX⟩⟩
 replace hc := of_decide_eq_false hc
 obtain rfl : j = p.pages.length := by omega
 rw [List.take_length]
 refine uaa (nx + 1) (bx p + 2 * p.pages.length) (cells (f4 p (ci p) (cp p))) zG zW ?_
 refine co ?_
 refine K5 _ ?_
 refine yS fun _ K23 => ?_
 refine f9 [(0, none), (1, none), (2, none), (3, none), (4, none), (5, none), (6, none)] (fun i => [5].contains i) (fun i => [3, 5].contains i) (fun i => [1, 4, 6].contains i) [nx + 1] (by kernel_rfl) (by kernel_rfl) ?_
 try dsimp only [St.put]
 refine ax rfl rfl rfl rfl (iy rfl rfl zG (by simp) (by rfl)) ?_
 refine ah rfl rfl rfl rfl (eo rfl rfl) ?_
 try dsimp only [St.put]
 refine ax rfl rfl rfl rfl (f3 rfl rfl zG (by simp) (by first | rfl | assumption)) ?_
 refine ip ?_
 try dsimp only [St.put]
 refine i7 rfl rfl rfl (ay rfl rfl rfl (xa (bp (bx p) (ci p)) (fun z => decide (z < 0)) _ _ fun z _ => uiy z) ⟨zD, ?_⟩)
 refine dw rfl rfl rfl rfl (dd rfl rfl) ?_
 try dsimp only [St.put]
 refine gl rfl rfl rfl rfl (cx rfl rfl rfl zG rfl rfl (by rfl) ?_)
 refine dw rfl rfl rfl rfl (fb rfl (by constructor)) ?_
 refine io ?_
 dsimp only [St.put]
 refine K23 _ ?_
 refine ar ?_
 refine gu rfl (jv rfl zG (by rfl) zC rfl) (dx (by constructor)) zN zS ?_ ?_
 ·exact zW
 rw [uls]; exact zW
theorem uiz (m : Nat) (e : Int) (p : af) : C.low m (bif decide (e = 0) then val (f4 p (ci p) (cp p)) else .agg [.list [] .nil, .list [] .nil, .list [] .nil]) := by
 cases decide (e = 0)
 ·exact .agg (bz e8 (bz e8 (bz e8 c4)))
 exact ec _ _
theorem ucb (n : Nat) (p : af) (c : C) (e : Int) (h : e = 0 → eb p ∧ c = .elem (j4 p)) : er n em Tryz.prog 41 [c, .v (.int .i64 e)] (.tup [bif decide (et p e = 0) then val (f4 p (ci p) (cp p)) else .agg [.list [] .nil, .list [] .nil, .list [] .nil], .v (.int .i64 (et p e))]) := fun G nx hF hnx => by
 refine g9 (G) (nx) Tryz.func41 rfl (.tup (bz (uiz _ _ _) (bz .v c4))) zN (fun hlt => zH) ?_
 simp only [Tryz.ntmps41, List.length_cons, List.length_nil, Nat.reduceAdd, Nat.reduceSub]
 refine bq fun hlt => ?_
 dsimp only at hlt
 refine yS fun _ K1 => ?_
 refine yR ?_
 try dsimp only [St.put]
 refine ae rfl (dt rfl ?_)
 refine yA rfl rfl ?_
 refine yN ?_
 dsimp only [St.put]
 refine K1 _ ?_
 refine yS fun _ K2 => ?_
 refine yS fun _ K3 => ?_
 refine yR ?_
 refine yM rfl rfl ?_
 refine aa rfl (eh rfl rfl rfl) ?_
 refine yN ?_
 dsimp only [St.put]
 refine K3 _ ?_
 refine aq rfl (fun hc => ?_) (fun hc => ?_)
 ·have h0 : e ≠ 0 := ji hc
  have hE : et p e = e := udk h0
  refine yS fun _ K4 => ?_
  refine yR ?_
  refine aa rfl (g5 rfl rfl) ?_
  refine yM rfl rfl ?_
  try dsimp only [St.put]
  refine ae rfl (cx rfl rfl rfl zG rfl rfl (by rfl) ?_)
  refine yA rfl rfl ?_
  refine yN ?_
  dsimp only [St.put]
  refine K4 _ ?_
  refine ar ?_
  refine gu rfl (jv rfl zG (by rfl) zC rfl) (dx (by constructor)) zN zS ?_ ?_
  ·rw [hE, decide_eq_false h0]; exact zW
  rw [hE]; exact zW
 have h0 : e = 0 := g3 hc
 obtain ⟨hok, rfl⟩ := h h0
 subst h0
 refine av ?_
 refine K2 _ ?_
 refine yS fun _ K5 => ?_
 refine yR ?_
 refine yM rfl rfl ?_
 try dsimp only [St.put]
 refine ae rfl (dz rfl rfl rfl (uj1 n p hok) zG (by dsimp only [St.put]; omega) ?_)
 refine yM rfl rfl ?_
 refine yX rfl rfl rfl rfl ?_
 refine yX rfl rfl rfl rfl ?_
 try dsimp only [St.put]
 refine ae rfl (dt rfl ?_)
 try dsimp only [St.put]
 refine ae rfl (cx rfl rfl rfl zG rfl rfl (by rfl) ?_)
 refine yA rfl rfl ?_
 refine yN ?_
 dsimp only [St.put]
 refine K5 _ ?_
 refine yS fun _ K6 => ?_
 refine yS fun _ K7 => ?_
 refine yR ?_
 refine yM rfl rfl ?_
 refine aa rfl (dd rfl rfl) ?_
 refine yN ?_
 dsimp only [St.put]
 refine K7 _ ?_
 refine aq rfl (fun hc => ?_) (fun hc => ?_)
 ·have hTB : gx p = false := by simpa using hc
  have hE : et p 0 = 8 := by rw [rk, hTB]; rfl
  refine yS fun _ K8 => ?_
  refine yR ?_
  refine aa rfl (g5 rfl rfl) ?_
  try dsimp only [St.put]
  refine ae rfl (cx rfl rfl rfl zG rfl rfl (by rfl) ?_)
  refine yA rfl rfl ?_
  refine yN ?_
  dsimp only [St.put]
  refine K8 _ ?_
  refine ar ?_
  refine gu rfl (jv rfl zG (by rfl) zC rfl) (dx (by constructor)) zN zS ?_ ?_
  ·rw [hE]; exact zW
  rw [hE]; exact zW
 have hTB : gx p = true := by simpa using hc
 have hE : et p 0 = 0 := by rw [rk, hTB]; rfl
 refine av ?_
 refine K6 _ ?_
 refine yS fun _ K9 => ?_
 refine yR ?_
 try dsimp only [St.put]
 refine bw rfl (iy rfl rfl zG trivial (by rfl)) ?_
 try dsimp only [St.put]
 refine ae rfl (cx rfl rfl rfl zG rfl rfl (by rfl) ?_)
 refine yA rfl rfl ?_
 refine yN ?_
 dsimp only [St.put]
 refine K9 _ ?_
 refine ar ?_
 refine gu rfl (jv rfl zG (by rfl) zC rfl) (dx (by constructor)) zN zS ?_ ?_
 ·rw [hE]; exact zW
 rw [hE]; exact zW
end Go.Proofs.YtbbdginipiljdaaGreatDoor
namespace Go.AB
open Go Go.RowKit
open Go.AB.Enc (cells)
open Go.PB (aw ai PlaceD bc bf bd bl am af ck bi cy c6)
/-- what may remain ahead of a page, by the worst truth -/
noncomputable def rmR (p : af) (i : Nat) : Nat → Int := ((bh p).room (ci p) (cp p) i).1
noncomputable def rmC (p : af) (i : Nat) : Nat → Int := ((bh p).room (ci p) (cp p) i).2
theorem uiw (p : af) (i : Nat) : rmR p (i + 1) = (bh p).lessR (rmR p i) i (fj p i) := rfl
theorem uix (p : af) (i : Nat) : rmC p (i + 1) = dr (rmC p i) i := rfl
theorem ual {p : af} (h : eb p) (ht : gx p = true) {i : Nat} (hi : i < p.pages.length) : (bh p).Pick (rmR p i) (rmC p i) i ((bh p).pick (rmR p i) (rmC p i) i) :=
 Net.worst_pick (mx h) (nl ht) (fun j _ => qk h j) hi
theorem uan (p : af) (i : Nat) : fj p i = (bh p).pick (rmR p i) (rmC p i) i := rfl
theorem ubs {p : af} (h : eb p) (ht : gx p = true) : ∀ {i : Nat}, i ≤ p.pages.length → Bd p (rmR p i) (rmC p i)
 | 0, _ => uj h
 | i + 1, hi => by
  have hp := ual h ht (i := i) (by omega)
  rw [uiw, uix, uan]
  exact z8 (ubs h ht (by omega)) hp.nn hp.le
theorem uod {p : af} {R C : Nat → Int} (hB : Bd p R C) (j : Nat) : (bh p).alone R C j ≤ 1000000 := Int.le_trans (Net.le_alone.1 (Int.le_refl _)).1 (hB.c j).2
end Go.AB
namespace Go.Proofs.YtbbdginipiljdaaGreatDoor
set_option maxRecDepth 10000
open Go.RowKit Go.AB
open Go.AB.Enc (cells)
open Go.PB (aw ai PlaceD bc bf bd bl am af ck bi cy c6)
end Go.Proofs.YtbbdginipiljdaaGreatDoor
namespace Go.AB
open Go Go.RowKit
open Go.AB.Enc (cells)
open Go.PB (aw ai PlaceD bc bf bd bl am af ck bi cy c6)
theorem rm {p : af} {e : Int} (h : et p e = 0) : e = 0 ∧ gx p = true := by
 by_cases h0 : e = 0
 ·subst h0
  rw [rk] at h
  cases ht : gx p
  ·rw [ht] at h; cases h
  exact ⟨rfl, rfl⟩
 rw [udk h0] at h; exact absurd h h0
end Go.AB
namespace Go.Proofs.YtbbdginipiljdaaGreatDoor
set_option maxRecDepth 10000
open Go Go.RowKit Go.AB
open Go.AB.Enc (cells)
open Go.PB (aw ai PlaceD bc bf bd bl am af ck bi cy c6)
theorem ufq {p : af} {n : Int} (h : ed p n = 0) : eb p ∧ pgC p n = .elem (j4 p) := ⟨(lu (qo h).1).1, s9 h⟩
theorem pp {p : af} (h : cj p = 0) : eb p ∧ jh p = .elem (j4 p) := ⟨(lu h).1, vt h⟩
theorem td (n : Nat) (p : af) (c : C) (e : Int) (h : e = 0 → eb p ∧ c = .elem (j4 p)) (hE : et p e = 0) : er n em Tryz.prog 41 [c, .v (.int .i64 e)] (.tup [val (f4 p (ci p) (cp p)), .v (.int .i64 0)]) := by
 have := ucb n p c e h
 rwa [hE, decide_eq_true rfl, cond_true] at this
theorem te (n : Nat) (p : af) (c : C) (e : Int) (h : e = 0 → eb p ∧ c = .elem (j4 p)) (hE : et p e ≠ 0) : er n em Tryz.prog 41 [c, .v (.int .i64 e)] (.tup [.agg [.list [] .nil, .list [] .nil, .list [] .nil], .v (.int .i64 (et p e))]) := by
 have := ucb n p c e h
 rwa [decide_eq_false hE, cond_false] at this
theorem ucc (n : Nat) (p : af) (m : Int) : er n em Tryz.prog 11 [val p, .v (.int .i64 m)] (.tup [val (n1 p m), .v (.int .i64 (et p (ed p m)))]) := fun G nx hF hnx => by
 refine g9 (G) (nx) Tryz.func11 rfl (.tup (bz (ec _ _) (bz .v c4))) zN (fun hlt => zH) ?_
 simp only [Tryz.ntmps11, List.length_cons, List.length_nil, Nat.reduceAdd, Nat.reduceSub]
 refine bq fun hlt => ?_
 dsimp only at hlt
 refine yS fun _ K1 => ?_
 refine yR ?_
 try dsimp only [St.put]
 refine yB rfl rfl rfl ?_
 try dsimp only [St.put]
 refine ae rfl (dt rfl ?_)
 refine yA rfl rfl ?_
 refine yN ?_
 dsimp only [St.put]
 refine K1 _ ?_
 refine yS fun _ K2 => ?_
 by_cases hL : et p (ed p m) = 0
 ·refine yR ?_
  refine yE rfl rfl rfl ?_
  refine yM rfl rfl ?_
  try dsimp only [St.put]
  refine ae rfl (dz rfl rfl rfl (ra n p m) zG (by dsimp only [St.put]; omega) ?_)
  refine yX rfl rfl rfl rfl ?_
  refine yX rfl rfl rfl rfl ?_
  try dsimp only [St.put]
  refine ae rfl (dz rfl rfl rfl (td n p (pgC p m) (ed p m) ufq hL) zG (by dsimp only [St.put]; omega) ?_)
  refine yM rfl rfl ?_
  refine yX rfl rfl rfl rfl ?_
  refine yX rfl rfl rfl rfl ?_
  try dsimp only [St.put]
  refine ae rfl (dt rfl ?_)
  try dsimp only [St.put]
  refine ae rfl (cx rfl rfl rfl zG rfl rfl (by rfl) ?_)
  refine yA rfl rfl ?_
  refine yN ?_
  dsimp only [St.put]
  refine K2 _ ?_
  refine yS fun _ K3 => ?_
  refine yS fun _ K4 => ?_
  refine yR ?_
  refine yM rfl rfl ?_
  refine aa rfl (eh rfl rfl rfl) ?_
  refine yN ?_
  dsimp only [St.put]
  refine K4 _ ?_
  refine aq rfl (fun hc => ?_) (fun hc => ?_)
  ·exact absurd hc (by decide)
  obtain ⟨h0, hTB⟩ := rm hL
  obtain ⟨hc0, j, x, rfl, hx, hpo⟩ := qo h0
  obtain ⟨hok, _⟩ := lu hc0
  have hV : n1 p (j : Int) = ⟨0, (bh p).alone (ci p) (cp p) j⟩ := by unfold n1; rw [hL, pt, Int.toNat_natCast]
  refine av ?_
  refine K3 _ ?_
  refine yS fun _ K5 => ?_
  refine yR ?_
  try dsimp only [St.put]
  refine bw rfl (iy rfl rfl zG trivial (by rfl)) ?_
  refine yM rfl rfl ?_
  try dsimp only [St.put]
  refine ae rfl (ay rfl rfl rfl (uce p (ci p) (cp p) j x hok hx) ?_)
  refine aa rfl (g5 rfl rfl) ?_
  try dsimp only [St.put]
  refine ae rfl (cx rfl rfl rfl zG rfl rfl (by rfl) ?_)
  refine yA rfl rfl ?_
  refine yN ?_
  dsimp only [St.put]
  refine K5 _ ?_
  refine ar ?_
  refine gu rfl (jv rfl zG (by rfl) zC rfl) (dx (by constructor)) zN zS ?_ ?_
  ·rw [hV]; exact zW
  rw [hL]; exact zW
 refine yR ?_
 refine yE rfl rfl rfl ?_
 refine yM rfl rfl ?_
 try dsimp only [St.put]
 refine ae rfl (dz rfl rfl rfl (ra n p m) zG (by dsimp only [St.put]; omega) ?_)
 refine yX rfl rfl rfl rfl ?_
 refine yX rfl rfl rfl rfl ?_
 try dsimp only [St.put]
 refine ae rfl (dz rfl rfl rfl (te n p (pgC p m) (ed p m) ufq hL) zG (by dsimp only [St.put]; omega) ?_)
 refine yM rfl rfl ?_
 refine yX rfl rfl rfl rfl ?_
 refine yX rfl rfl rfl rfl ?_
 try dsimp only [St.put]
 refine ae rfl (dt rfl ?_)
 try dsimp only [St.put]
 refine ae rfl (cx rfl rfl rfl zG rfl rfl (by rfl) ?_)
 refine yA rfl rfl ?_
 refine yN ?_
 dsimp only [St.put]
 refine K2 _ ?_
 refine yS fun _ K6 => ?_
 refine yS fun _ K7 => ?_
 refine yR ?_
 refine yM rfl rfl ?_
 refine aa rfl (eh rfl rfl rfl) ?_
 refine yN ?_
 dsimp only [St.put]
 refine K7 _ ?_
 refine aq rfl (fun hc => ?_) (fun hc => ?_)
 ·have hV : n1 p m = ⟨0, 0⟩ := by unfold n1; rw [lf hL]
  refine yS fun _ K8 => ?_
  refine yR ?_
  refine aa rfl (g5 rfl rfl) ?_
  refine yM rfl rfl ?_
  try dsimp only [St.put]
  refine ae rfl (cx rfl rfl rfl zG rfl rfl (by rfl) ?_)
  refine yA rfl rfl ?_
  refine yN ?_
  dsimp only [St.put]
  refine K8 _ ?_
  refine ar ?_
  refine gu rfl (jv rfl zG (by rfl) zC rfl) (dx (by constructor)) zN zS ?_ ?_
  ·rw [hV]; exact zW
  exact zW
 exact absurd (g3 hc) hL
theorem yc (n : Nat) (p : af) : er n em Tryz.prog 13 [val p] (.tup [val (ox p), .v (.int .i64 (et p (cj p)))]) := fun G nx hF hnx => by
 refine g9 (G) (nx) Tryz.func13 rfl (.tup (bz (ec _ _) (bz .v c4))) zN (fun hlt => zH) ?_
 simp only [Tryz.ntmps13, List.length_cons, List.length_nil, Nat.reduceAdd, Nat.reduceSub]
 refine bq fun hlt => ?_
 dsimp only at hlt
 refine yS fun _ K1 => ?_
 refine yR ?_
 try dsimp only [St.put]
 refine yB rfl rfl rfl ?_
 try dsimp only [St.put]
 refine ae rfl (dt rfl ?_)
 refine yA rfl rfl ?_
 refine yN ?_
 dsimp only [St.put]
 refine K1 _ ?_
 refine yS fun _ K2 => ?_
 by_cases hL : et p (cj p) = 0
 ·refine yR ?_
  refine yE rfl rfl rfl ?_
  try dsimp only [St.put]
  refine ae rfl (dz rfl rfl rfl (n2 n p) zG (by dsimp only [St.put]; omega) ?_)
  refine yX rfl rfl rfl rfl ?_
  refine yX rfl rfl rfl rfl ?_
  try dsimp only [St.put]
  refine ae rfl (dz rfl rfl rfl (td n p (jh p) (cj p) pp hL) zG (by dsimp only [St.put]; omega) ?_)
  refine yM rfl rfl ?_
  refine yX rfl rfl rfl rfl ?_
  refine yX rfl rfl rfl rfl ?_
  try dsimp only [St.put]
  refine ae rfl (dt rfl ?_)
  try dsimp only [St.put]
  refine ae rfl (cx rfl rfl rfl zG rfl rfl (by rfl) ?_)
  refine yA rfl rfl ?_
  refine yN ?_
  dsimp only [St.put]
  refine K2 _ ?_
  refine yS fun _ K3 => ?_
  refine yS fun _ K4 => ?_
  refine yR ?_
  refine yM rfl rfl ?_
  refine aa rfl (eh rfl rfl rfl) ?_
  refine yN ?_
  dsimp only [St.put]
  refine K4 _ ?_
  refine aq rfl (fun hc => ?_) (fun hc => ?_)
  ·exact absurd hc (by decide)
  obtain ⟨h0, hTB⟩ := rm hL
  obtain ⟨hok, _⟩ := lu h0
  have hV : ox p = ⟨0, (bh p).most (ci p) (cp p)⟩ := by unfold ox; rw [hL, pt]; rfl
  refine av ?_
  refine K3 _ ?_
  refine yS fun _ K5 => ?_
  refine yR ?_
  try dsimp only [St.put]
  refine bw rfl (iy rfl rfl zG trivial (by rfl)) ?_
  try dsimp only [St.put]
  refine ae rfl (ay rfl rfl rfl (tf p (ci p) (cp p) hok (uj hok)) ?_)
  refine aa rfl (g5 rfl rfl) ?_
  try dsimp only [St.put]
  refine ae rfl (cx rfl rfl rfl zG rfl rfl (by rfl) ?_)
  refine yA rfl rfl ?_
  refine yN ?_
  dsimp only [St.put]
  refine K5 _ ?_
  refine ar ?_
  refine gu rfl (jv rfl zG (by rfl) zC rfl) (dx (by constructor)) zN zS ?_ ?_
  ·rw [hV]; exact zW
  rw [hL]; exact zW
 refine yR ?_
 refine yE rfl rfl rfl ?_
 try dsimp only [St.put]
 refine ae rfl (dz rfl rfl rfl (n2 n p) zG (by dsimp only [St.put]; omega) ?_)
 refine yX rfl rfl rfl rfl ?_
 refine yX rfl rfl rfl rfl ?_
 try dsimp only [St.put]
 refine ae rfl (dz rfl rfl rfl (te n p (jh p) (cj p) pp hL) zG (by dsimp only [St.put]; omega) ?_)
 refine yM rfl rfl ?_
 refine yX rfl rfl rfl rfl ?_
 refine yX rfl rfl rfl rfl ?_
 try dsimp only [St.put]
 refine ae rfl (dt rfl ?_)
 try dsimp only [St.put]
 refine ae rfl (cx rfl rfl rfl zG rfl rfl (by rfl) ?_)
 refine yA rfl rfl ?_
 refine yN ?_
 dsimp only [St.put]
 refine K2 _ ?_
 refine yS fun _ K6 => ?_
 refine yS fun _ K7 => ?_
 refine yR ?_
 refine yM rfl rfl ?_
 refine aa rfl (eh rfl rfl rfl) ?_
 refine yN ?_
 dsimp only [St.put]
 refine K7 _ ?_
 refine aq rfl (fun hc => ?_) (fun hc => ?_)
 ·have hV : ox p = ⟨0, 0⟩ := by unfold ox; rw [lf hL]
  refine yS fun _ K8 => ?_
  refine yR ?_
  refine aa rfl (g5 rfl rfl) ?_
  refine yM rfl rfl ?_
  try dsimp only [St.put]
  refine ae rfl (cx rfl rfl rfl zG rfl rfl (by rfl) ?_)
  refine yA rfl rfl ?_
  refine yN ?_
  dsimp only [St.put]
  refine K8 _ ?_
  refine ar ?_
  refine gu rfl (jv rfl zG (by rfl) zC rfl) (dx (by constructor)) zN zS ?_ ?_
  ·rw [hV]; exact zW
  exact zW
 exact absurd (g3 hc) hL
set_option maxHeartbeats 1000000 in
theorem ya (n0 : Nat) (p : af) : er n0 em Tryz.prog 15 [val p] (.tup [lst (nj p), .v (.int .i64 (et p (cj p)))]) := fun G nx hF hnx => by
 refine g9 (G) (nx) Tryz.func15 rfl (.tup (bz (bu _ _) (bz .v c4))) zN (fun hlt => zH) ?_
 simp only [Tryz.ntmps15, List.length_cons, List.length_nil, Nat.reduceAdd, Nat.reduceSub]
 refine bq fun hlt => ?_
 dsimp only at hlt
 refine yS fun _ K1 => ?_
 refine yR ?_
 try dsimp only [St.put]
 refine yB rfl rfl rfl ?_
 refine yA rfl rfl ?_
 refine yA rfl rfl ?_
 refine yN ?_
 dsimp only [St.put]
 refine K1 _ ?_
 refine yS fun _ K2 => ?_
 by_cases hL : et p (cj p) = 0
 ·refine yR ?_
  refine yE rfl rfl rfl ?_
  try dsimp only [St.put]
  refine ae rfl (dz rfl rfl rfl (n2 n0 p) zG (by dsimp only [St.put]; omega) ?_)
  refine yX rfl rfl rfl rfl ?_
  refine yX rfl rfl rfl rfl ?_
  try dsimp only [St.put]
  refine ae rfl (dz rfl rfl rfl (td n0 p (jh p) (cj p) pp hL) zG (by dsimp only [St.put]; omega) ?_)
  refine yM rfl rfl ?_
  refine yX rfl rfl rfl rfl ?_
  refine yX rfl rfl rfl rfl ?_
  try dsimp only [St.put]
  refine ae rfl (dt rfl ?_)
  try dsimp only [St.put]
  refine ae rfl (cx rfl rfl rfl zG rfl rfl (by rfl) ?_)
  refine yA rfl rfl ?_
  refine yN ?_
  dsimp only [St.put]
  refine K2 _ ?_
  refine yS fun _ K3 => ?_
  refine yS fun _ K4 => ?_
  refine yR ?_
  refine yM rfl rfl ?_
  refine aa rfl (eh rfl rfl rfl) ?_
  refine yN ?_
  dsimp only [St.put]
  refine K4 _ ?_
  refine aq rfl (fun hc => ?_) (fun hc => ?_)
  ·exact absurd hc (by decide)
  obtain ⟨h0, hTB⟩ := rm hL
  obtain ⟨hok, _⟩ := lu h0
  have hnp := hok.np
  have hV : nj p = bp p.pages.length (fj p) := by unfold nj; rw [hL, pt]
  refine av ?_
  refine K3 _ ?_
  refine yS fun _ K5 => ?_
  refine yR ?_
  refine yA rfl rfl ?_
  refine yN ?_
  dsimp only [St.put]
  refine K5 _ ?_
  refine ng 6 3 1 rfl (by decide) ?_
  dsimp only [List.set_cons_zero, List.set_cons_succ]
  refine yS fun _ K6 => ?_
  refine yS fun _ K7 => ?_
  refine yR ?_
  refine yF rfl rfl rfl rfl ?_
  refine yL rfl rfl rfl ?_
  refine aa rfl (bg rfl rfl (List.length_map _)) ?_
  refine yM rfl rfl ?_
  refine yN ?_
  dsimp only [St.put]
  refine K7 _ ?_
  refine ba ?_
  refine cc 25 ?_
  refine zQ ?_
  refine cr ((ak (ak G nx (.box (0 + 1) (cells (f4 p (rmR p 0) (rmC p 0))))) (nx + 1) (.tip (bp 0 (fj p)).length 3 1))) zX ?_
  dsimp only
  refine cv (X := Nat) (fun i => i ≤ p.pages.length) (fun i => p.pages.length - i) (fun i => [(6, .list ((bp i (fj p)).map cells) (.tip (nx + 1))), (7, .any), (8, .any), (9, .any), (24, .v (.int .i64 (i : Int)))]) (fun i G' => (ak (ak G nx (.box (i + 1) (cells (f4 p (rmR p i) (rmC p i))))) (nx + 1) (.tip (bp i (fj p)).length 3 1))) 0 rfl ?_ ?_ ?_ ?_ ?_ ?_
  ·exact Nat.zero_le _
  ·exact zF
  ·exact zX
  ·rintro i hI
   exact zL
  ·rintro i hI
   exact zH
  rintro i hI
  dsimp only at hI ⊢
  refine yS fun _ K8 => ?_
  refine yR ?_
  refine aa rfl (ce rfl rfl rfl) ?_
  refine yN ?_
  dsimp only [St.put]
  refine K8 _ ?_
  refine yS fun _ K9 => ?_
  refine aq rfl (fun hc => ?_) (fun hc => ?_)
  ·replace hc := of_decide_eq_true hc
   have hi : i < p.pages.length := by omega
   obtain ⟨x, hx⟩ : ∃ x, p.pages[i]? = some x := cw hi
   have hB := ubs hok hTB (Nat.le_of_lt hi)
   have hP := ual hok hTB hi
   have hab := uod hB i
   have hmb := uc3 hB
   have hln := gd i (fj p)
   have hPn := hP.nn
   refine av ?_
   refine K9 _ ?_
   refine yS fun _ K10 => ?_
   refine ba ?_
   refine yS fun _ K11 => ?_
   refine yR ?_
   refine yM rfl rfl ?_
   refine yA rfl rfl ?_
   refine yN ?_
   dsimp only [St.put]
   refine K11 _ ?_
   refine yS fun _ K12 => ?_
   refine f9 [(0, none), (2, none), (3, none), (1, none), (4, none), (5, none), (6, none)] (fun i => [4].contains i) (fun i => [1, 4].contains i) (fun i => [3, 5, 6].contains i) [nx] (by kernel_rfl) (by kernel_rfl) ?_
   try dsimp only [St.put]
   refine ax rfl rfl rfl rfl (iy rfl rfl zG (by simp) (by rfl)) ?_
   try dsimp only [St.put]
   refine ax rfl rfl rfl rfl (iy rfl rfl zG (by simp) (by rfl)) ?_
   refine xM rfl rfl rfl rfl rfl ?_
   refine ip ?_
   try dsimp only [St.put]
   refine i7 rfl rfl rfl (ay rfl rfl rfl (tf p _ _ hok hB) ⟨zD, ?_⟩)
   try dsimp only [St.put]
   refine gl rfl rfl rfl rfl (ay rfl rfl rfl (uce p (rmR p i) (rmC p i) i x hok hx) ?_)
   refine dw rfl rfl rfl rfl (fb rfl (by constructor)) ?_
   refine dw rfl rfl rfl rfl (fb rfl (by constructor)) ?_
   refine io ?_
   dsimp only [St.put]
   refine K12 _ ?_
   refine yS fun _ K13 => ?_
   refine ba ?_
   refine cc 25 ?_
   refine zQ ?_
   refine cv (X := Int) (fun n => FromTop p (rmR p i) (rmC p i) i n) (fun n => n.toNat) (fun n => [(9, .v (.int .i64 n))]) (fun n G' => G') ((bh p).alone (rmR p i) (rmC p i) i) rfl ?_ ?_ (fun _ _ h => h) ?_ ?_ ?_
   ·exact FromTop.start hP
   ·exact zF
   ·rintro n hI
    exact zL
   ·exact fun _ _ _ _ h => .inl h
   rintro n hF2
   dsimp only at hF2 ⊢
   have hF1 := hF2.1
   have hF3 := hF2.2.1
   have hBl := z8 hB (by omega) hF2.2.1
   have hmb2 := uc3 hBl
   refine yS fun _ K14 => ?_
   refine yS fun _ K15 => ?_
   refine yR ?_
   refine yM rfl rfl ?_
   try dsimp only [St.put]
   refine bw rfl (iy rfl rfl zG trivial (by rfl)) ?_
   refine yM rfl rfl ?_
   refine yM rfl rfl ?_
   try dsimp only [St.put]
   refine ae rfl (ay rfl rfl rfl (yb p (rmR p i) (rmC p i) i x n hok hx (by have := hF2.1; have := hF2.2.1; omega) hB.r) ?_)
   try dsimp only [St.put]
   refine ae rfl (ay rfl rfl rfl (tf p _ _ hok (z8 hB (by have := hF2.1; omega) hF2.2.1)) ?_)
   refine aa rfl (bn rfl rfl rfl (by omega)) ?_
   refine yM rfl rfl ?_
   refine aa rfl (ce rfl rfl rfl) ?_
   refine yN ?_
   dsimp only [St.put]
   refine K15 _ ?_
   refine aq rfl (fun hc => ?_) (fun hc => ?_)
   ·replace hc := of_decide_eq_true hc
    have hnot : ¬ (bh p).most (rmR p i) (rmC p i) ≤ n + (bh p).most ((bh p).lessR (rmR p i) i n) (dr (rmC p i) i) := by omega
    refine av ?_
    refine K14 _ ?_
    refine ba ?_
    refine yR ?_
    refine yM rfl rfl ?_
    refine aa rfl (gn rfl rfl rfl (by omega)) ?_
    refine yA rfl rfl ?_
    refine yN ?_
    dsimp only [St.put]
    have hd := FromTop.down hP hF2 hnot
    have hd1 := hd.1
    exact ⟨n - 1, by omega, hd, ⟨⟨rfl, rfl⟩, zF, zB, zN, zX⟩⟩
   replace hc := of_decide_eq_false hc
   have hnw := FromTop.stop hP hF2 (by omega)
   rw [← uan] at hnw
   subst hnw
   refine co ?_
   refine K13 _ ?_
   refine yS fun _ K16 => ?_
   refine yR ?_
   try dsimp only [St.put]
   refine bw rfl (iy rfl rfl zG trivial (by rfl)) ?_
   refine yM rfl rfl ?_
   refine yM rfl rfl ?_
   try dsimp only [St.put]
   refine ae rfl (ay rfl rfl rfl (yb p (rmR p i) (rmC p i) i x (fj p i) hok hx (by have := hF2.1; have := hF2.2.1; omega) hB.r) ?_)
   try dsimp only [St.put]
   refine ae rfl (cx rfl rfl rfl zG rfl rfl (by rfl) ?_)
   refine yN ?_
   dsimp only [St.put]
   refine K16 _ ?_
   refine yR ?_
   refine yM rfl rfl ?_
   refine yM rfl rfl ?_
   try dsimp only [St.put]
   refine ae rfl (dm rfl rfl rfl (by decide) (by decide) zR (by decide) ?_)
   try dsimp only [St.put]
   refine ae rfl (jt ([fj p i]) rfl rfl zG zE rfl rfl zA ?_ zA)
   refine yA rfl rfl ?_
   refine yN ?_
   dsimp only [St.put]
   refine K10 _ ?_
   refine yR ?_
   refine aa rfl (bn rfl rfl rfl (by omega)) ?_
   refine yM rfl rfl ?_
   refine yN ?_
   dsimp only [St.put]
   have e := sr i (fj p)
   rw [← e]
   exact ⟨i + 1, by omega, by omega, ⟨⟨rfl, rfl⟩, zF, zB, zN, zX⟩⟩
  replace hc := of_decide_eq_false hc
  obtain rfl : i = p.pages.length := by omega
  refine co ?_
  refine K6 _ ?_
  refine yS fun _ K17 => ?_
  refine yR ?_
  refine yM rfl rfl ?_
  refine yA rfl rfl ?_
  refine yA rfl rfl ?_
  refine yN ?_
  dsimp only [St.put]
  refine K17 _ ?_
  refine ar ?_
  refine gu rfl (dx (by constructor)) (dx (by constructor)) zN zS ?_ ?_
  ·rw [hV]; exact zW
  rw [hL]; exact zW
 refine yR ?_
 refine yE rfl rfl rfl ?_
 try dsimp only [St.put]
 refine ae rfl (dz rfl rfl rfl (n2 n0 p) zG (by dsimp only [St.put]; omega) ?_)
 refine yX rfl rfl rfl rfl ?_
 refine yX rfl rfl rfl rfl ?_
 try dsimp only [St.put]
 refine ae rfl (dz rfl rfl rfl (te n0 p (jh p) (cj p) pp hL) zG (by dsimp only [St.put]; omega) ?_)
 refine yM rfl rfl ?_
 refine yX rfl rfl rfl rfl ?_
 refine yX rfl rfl rfl rfl ?_
 try dsimp only [St.put]
 refine ae rfl (dt rfl ?_)
 try dsimp only [St.put]
 refine ae rfl (cx rfl rfl rfl zG rfl rfl (by rfl) ?_)
 refine yA rfl rfl ?_
 refine yN ?_
 dsimp only [St.put]
 refine K2 _ ?_
 refine yS fun _ K18 => ?_
 refine yS fun _ K19 => ?_
 refine yR ?_
 refine yM rfl rfl ?_
 refine aa rfl (eh rfl rfl rfl) ?_
 refine yN ?_
 dsimp only [St.put]
 refine K19 _ ?_
 refine aq rfl (fun hc => ?_) (fun hc => ?_)
 ·have hV : nj p = [] := by unfold nj; rw [lf hL]
  refine yS fun _ K20 => ?_
  refine yR ?_
  refine yM rfl rfl ?_
  refine yA rfl rfl ?_
  refine yA rfl rfl ?_
  refine yN ?_
  dsimp only [St.put]
  refine K20 _ ?_
  refine ar ?_
  refine gu rfl (dx (by constructor)) (dx (by constructor)) zN zS ?_ ?_
  ·rw [hV]; exact zW
  exact zW
 exact absurd (g3 hc) hL
end Go.Proofs.YtbbdginipiljdaaGreatDoor
namespace Go.Proofs.YtbbdginipiljdaaGreatDoor
set_option maxRecDepth 10000
open Go Go.RowKit Go.AB
open Go.AB.Enc (cells)
open Go.PB (aw ai PlaceD bc bf bd bl am af ck bi cy c6)
set_option maxHeartbeats 1000000 in
theorem uih (nF : Nat) (n : Nat) (hb : n ≤ 8) : w9 nF em Tryz.prog 89 [.elem [.v (.int .i64 (n : Int))]] (2 ^ n) (fun s => [.v (.int .i64 (s : Int)), lst (ep n s)]) := by
 refine udr Tryz.func89 rfl rfl fun I hN hcl ok hG hn => ?_
 simp only [Tryz.ntmps89, List.length_cons, List.length_nil, Nat.reduceAdd, Nat.reduceSub]
 have h256 : 2 ^ n ≤ 2 ^ 8 := Nat.pow_le_pow_right (by omega) hb
 refine ka 2 ?_
 refine zQ ?_
 refine pj ?_
 dsimp only [FC.st]
 refine bq fun hlt => ?_
 dsimp only at hlt
 refine iu ?_
 try dsimp only [St.put]
 first | refine bw rfl (bv rfl rfl) ?_ | refine bw rfl (d8 rfl rfl (Enc.len _)) ?_ | refine bw rfl (d8 rfl rfl rfl) ?_ | refine bw rfl (f3 rfl rfl zG trivial (by first | rfl | assumption)) ?_ | refine bw rfl (iy rfl rfl zG trivial (by rfl)) ?_ | refine bw rfl (pz rfl rfl zG trivial (by simp)) ?_ | refine bw rfl (jo rfl rfl zG trivial (qi (by assumption) rfl)) ?_ | refine bw rfl (jo rfl rfl zG trivial (by assumption)) ?_ | refine bw rfl (qy rfl rfl zG trivial rfl (by assumption) rfl (by decide)) ?_ | refine bw rfl (mq rfl rfl zG (by rfl)) ?_
 refine aa rfl (ucx (n := n) rfl rfl rfl (by omega)) ?_
 refine aa rfl (gg rfl (by constructor)) ?_
 refine iv ?_
 dsimp only [St.put]
 show ju _ _ _ _ _ _ _
 refine pk ok rfl ⟨rfl, rfl, zK, zN, zS, zK⟩ ?_
 refine rq ?_
 refine ka 9 ?_
 refine zQ ?_
 refine zd (X := Nat) (fun s => s ≤ 2 ^ n) (fun s => 2 ^ n - s) (fun s => [(3, .any), (4, .any), (5, .any), (8, .v (.int .i64 (s : Int)))]) (fun s => s) 0 rfl ?_ ?_ ?_ ?_ ?_
 ·exact Nat.zero_le _
 ·exact zF
 ·rfl
 ·rintro s hI
  exact zL
 ·rintro s hI
  dsimp only at hI ⊢
  refine ka 9 ?_
  refine zQ ?_
  refine pj ?_
  dsimp only [FC.st]
  refine bq fun hlt => ?_
  dsimp only at hlt
  refine iu ?_
  refine aa rfl (ce rfl rfl rfl) ?_
  refine iv ?_
  dsimp only [St.put]
  show ju _ _ _ _ _ _ _
  refine pk ok rfl ⟨rfl, rfl, zK, zN, zS, zK⟩ ?_
  refine pi fun K1 hK1 => ?_
  refine ud rfl (fun hc => ?_) (fun hc => ?_)
  ·replace hc := of_decide_eq_true hc
   have hs : s < 2 ^ n := by omega
   refine uc ?_
   refine hK1 _ _ ?_
   refine pi fun K2 hK2 => ?_
   refine rq ?_
   refine ka 9 ?_
   refine zQ ?_
   refine pj ?_
   dsimp only [FC.st]
   refine bq fun hlt => ?_
   dsimp only at hlt
   refine iu ?_
   refine aa rfl (gg rfl (by constructor)) ?_
   refine aa rfl (fb rfl (by constructor)) ?_
   refine iv ?_
   dsimp only [St.put]
   show ju _ _ _ _ _ _ _
   refine wl ?_
   refine iu ?_
   refine aa rfl (fb rfl (by constructor)) ?_
   refine iv ?_
   dsimp only [St.put]
   show ju _ _ _ _ _ _ _
   refine wl ?_
   refine ng 4 3 1 rfl (by decide) ?_
   dsimp only [List.set_cons_zero, List.set_cons_succ]
   refine qm fun K3 hK3 => ?_
   refine iu ?_
   try dsimp only [St.put]
   first | refine bw rfl (bv rfl rfl) ?_ | refine bw rfl (d8 rfl rfl (Enc.len _)) ?_ | refine bw rfl (d8 rfl rfl rfl) ?_ | refine bw rfl (f3 rfl rfl zG trivial (by first | rfl | assumption)) ?_ | refine bw rfl (iy rfl rfl zG trivial (by rfl)) ?_ | refine bw rfl (pz rfl rfl zG trivial (by simp)) ?_ | refine bw rfl (jo rfl rfl zG trivial (qi (by assumption) rfl)) ?_ | refine bw rfl (jo rfl rfl zG trivial (by assumption)) ?_ | refine bw rfl (qy rfl rfl zG trivial rfl (by assumption) rfl (by decide)) ?_ | refine bw rfl (mq rfl rfl zG (by rfl)) ?_
   refine aa rfl (gg rfl (by constructor)) ?_
   refine iv ?_
   dsimp only [St.put]
   refine hK3 _ ?_
   refine ba ?_
   refine cc 13 ?_
   refine zQ ?_
   refine cr ((ak (I.G s) I.nx (.tip (ep 0 s).length 3 1))) zX ?_
   dsimp only
   refine cv (X := Nat) (fun k => k ≤ n) (fun k => n - k) (fun k => [(4, .list ((ep k s).map cells) (.tip I.nx)), (5, .any), (12, .v (.int .i64 (k : Int)))]) (fun k G' => (ak (I.G s) I.nx (.tip (ep k s).length 3 1))) 0 rfl ?_ ?_ ?_ ?_ ?_ ?_
   ·exact Nat.zero_le _
   ·exact zF
   ·exact zX
   ·rintro k hI
    exact zL
   ·rintro k hI
    exact zH
   ·rintro k hK
    dsimp only at hK ⊢
    refine qm fun K4 hK4 => ?_
    refine iu ?_
    refine aa rfl (ce rfl rfl rfl) ?_
    refine iv ?_
    dsimp only [St.put]
    refine hK4 _ ?_
    refine qm fun K5 hK5 => ?_
    refine aq rfl (fun hc => ?_) (fun hc => ?_)
    ·replace hc := of_decide_eq_true hc
     have hml := tr k s
     refine av ?_
     refine hK5 _ ?_
     refine qm fun K6 hK6 => ?_
     refine ba ?_
     refine qm fun K7 hK7 => ?_
     refine iu ?_
     refine aa rfl (gg rfl (by constructor)) ?_
     refine aa rfl (fb rfl (by constructor)) ?_
     refine iv ?_
     dsimp only [St.put]
     refine hK7 _ ?_
     refine qm fun K8 hK8 => ?_
     refine iu ?_
     refine aa rfl (gg rfl (by constructor)) ?_
     refine aa rfl (gg rfl (by constructor)) ?_
     refine aa rfl (yo (m := s) (n := k) rfl rfl rfl (by show k ≤ 64; omega) (by show (s : Int) ≤ 9223372036854775807; omega) (by decide)) ?_
     refine aa rfl (yq (m := s / 2 ^ k) rfl rfl rfl (Nat.lt_of_le_of_lt (Nat.div_le_self _ _) (by show s < 2 ^ 64; omega)) (by decide)) ?_
     refine aa rfl (fa rfl rfl rfl) ?_
     refine iv ?_
     dsimp only [St.put]
     refine hK8 _ ?_
     refine aq rfl (fun hc => ?_) (fun hc => ?_)
     ·have hb1 : s.testBit k = true := bit_eq.1 (of_decide_eq_true hc)
      refine iu ?_
      refine aa rfl (gg rfl (by constructor)) ?_
      refine aa rfl (gg rfl (by constructor)) ?_
      try dsimp only [St.put]
      refine ae rfl (dm rfl rfl rfl (by decide) (by decide) zR (by decide) ?_)
      try dsimp only [St.put]
      refine ae rfl (jt ([(k : Int)]) rfl rfl zG zE rfl rfl zA ?_ zA)
      refine aa rfl (fb rfl (by constructor)) ?_
      refine iv ?_
      dsimp only [St.put]
      refine hK6 _ ?_
      refine iu ?_
      first | refine aa rfl (bn rfl rfl rfl (by omega)) ?_ | refine aa rfl (tq rfl rfl rfl) ?_
      refine aa rfl (gg rfl (by constructor)) ?_
      refine iv ?_
      dsimp only [St.put]
      have e := uc8 k s
      first
      | (have q : s.testBit k = true := hb1
         rw [q, cond_true] at e
         rw [← e]
         exact ⟨k + 1, by omega, by omega, ⟨⟨rfl, rfl⟩, zF, zB, zN, zX⟩⟩)
      | (have q : s.testBit k = false := hb0
         rw [q, cond_false, List.append_nil] at e
         rw [← e]
         exact ⟨k + 1, by omega, by omega, ⟨⟨rfl, rfl⟩, zF, zB, zN, zX⟩⟩)
     ·have hb0 : s.testBit k = false := by
       have := of_decide_eq_false hc
       rw [bit_eq, Bool.not_eq_true] at this
       exact this
      refine av ?_
      refine hK6 _ ?_
      refine iu ?_
      first | refine aa rfl (bn rfl rfl rfl (by omega)) ?_ | refine aa rfl (tq rfl rfl rfl) ?_
      refine aa rfl (gg rfl (by constructor)) ?_
      refine iv ?_
      dsimp only [St.put]
      have e := uc8 k s
      first
      | (have q : s.testBit k = true := hb1
         rw [q, cond_true] at e
         rw [← e]
         exact ⟨k + 1, by omega, by omega, ⟨⟨rfl, rfl⟩, zF, zB, zN, zX⟩⟩)
      | (have q : s.testBit k = false := hb0
         rw [q, cond_false, List.append_nil] at e
         rw [← e]
         exact ⟨k + 1, by omega, by omega, ⟨⟨rfl, rfl⟩, zF, zB, zN, zX⟩⟩)
    ·replace hc := of_decide_eq_false hc
     obtain rfl : k = n := by omega
     refine w5 4 (lst (ep k s)) rfl Wk.tok ?_
     refine co ?_
     show ju _ _ _ _ _ _ _
     refine pk ok rfl ⟨rfl, rfl, zK, zN, zS, zK⟩ ?_
     refine pi fun K9 hK9 => ?_
     refine udz ?_
     refine qh rfl (gg rfl (by constructor)) ?_
     refine qh rfl (gg rfl (by constructor)) ?_
     refine qh rfl (gg rfl (by constructor)) ?_
     try dsimp only [St.put]
     refine ud3 ok (by rw [hN]; exact hs) rfl rfl rfl rfl (by rw [hcl]; rfl) ?_
     refine qh rfl (dd rfl rfl) ?_
     refine ud4 ?_
     dsimp only [St.put]
     refine hK9 _ _ ?_
     refine ud rfl (fun h => by cases h) (fun _ => ?_)
     refine uc ?_
     refine hK2 _ _ ?_
     refine ka 9 ?_
     refine zQ ?_
     refine zc ok rfl ?_
     dsimp only [FC.st]
     refine bq fun hlt => ?_
     dsimp only at hlt
     refine iu ?_
     first | refine aa rfl (bn rfl rfl rfl (by omega)) ?_ | refine aa rfl (tq rfl rfl rfl) ?_
     refine aa rfl (gg rfl (by constructor)) ?_
     refine iv ?_
     dsimp only [St.put]
     refine ⟨⟨rfl, rfl, zK, zN, zS, zK⟩, ?_⟩
     exact ⟨s + 1, by omega, by omega, rfl, ⟨⟨rfl, rfl⟩, zF, zB, zN, zX⟩⟩
  ·replace hc := of_decide_eq_false hc
   obtain rfl : s = 2 ^ n := by omega
   refine ze ?_
   exact ⟨.inl rfl, rfl⟩
end Go.Proofs.YtbbdginipiljdaaGreatDoor
namespace Go.AB
open Go Go.RowKit
open Go.AB.Enc (cells)
open Go.PB (aw ai PlaceD bc bf bd bl am af ck bi cy c6)
theorem un4 {so : Nat → Bool} {n k : Nat} : ((ez so n k).getD []).length ≤ n := by
 rcases w4 so n k with ⟨h, _⟩ | ⟨b, h, k⟩
 ·rw [h]; exact Nat.zero_le _
 rw [h]
 obtain ⟨s, _, _, rfl⟩ := k.get
 exact tr n s
theorem un2 {so : Nat → Bool} {n k : Nat} (h : so k = false) : ez so n (k + 1) = ez so n k := by
 cases hb : ez so n k with
 | none => rw [ufe hb, h]; rfl
 | some b => rw [z6 hb, h]; rfl
theorem un5 {so : Nat → Bool} {n k : Nat} (hb : ez so n k = none) (h : so k = true) : ez so n (k + 1) = some (ep n k) := by rw [ufe hb, h]; rfl
theorem un3 {so : Nat → Bool} {n k : Nat} {b : List Int} (hb : ez so n k = some b) (h : so k = true) : ez so n (k + 1) = bif im (ep n k) b then some (ep n k) else some b := by rw [z6 hb, h]; rfl
theorem uay {α : Type} {l : List α} {k : Nat} {x : α} (h : l[k]? = some x) : l.take (k + 1) = l.take k ++ [x] := by rw [List.take_add_one, h]; rfl
theorem ugy (p : af) (l : List Int) (z : Int) : nk p (l ++ [z]) = nk p l ++ bif decide (z < (p.firsts.length : Int)) then [z] else [] := by
 unfold nk
 rw [List.filter_append]
 cases h : decide (z < (p.firsts.length : Int)) <;> simp [h]
theorem ugv (p : af) (l : List Int) (z : Int) : mo p (l ++ [z]) = mo p l ++ bif decide (z < (p.firsts.length : Int)) then [] else [z - (p.firsts.length : Int)] := by
 unfold mo
 rw [List.filter_append, List.map_append]
 cases h : decide (z < (p.firsts.length : Int)) <;> simp [h]
theorem ugz (p : af) (l : List Int) : (nk p l).length ≤ l.length := List.length_filter_le _ _
theorem ugw (p : af) (l : List Int) : (mo p l).length ≤ l.length := by
 unfold mo
 rw [List.length_map]
 exact List.length_filter_le _ _
theorem ugx {p : af} {z : Int} (h : z ∈ gw p) : 0 ≤ z ∧ z < (bx p : Int) := by
 unfold gw ne at h
 rcases w4 (qu p) (bx p) (2 ^ bx p) with ⟨q, _⟩ | ⟨b, q, k⟩
 ·rw [q] at h; cases h
 rw [q] at h
 obtain ⟨s, _, _, rfl⟩ := k.get
 obtain ⟨i, rfl, hi, _⟩ := membersL_mem.1 h
 omega
end Go.AB
namespace Go.Proofs.YtbbdginipiljdaaGreatDoor
set_option maxRecDepth 10000
open Go.RowKit Go.AB
open Go.AB.Enc (cells)
open Go.PB (aw ai PlaceD bc bf bd bl am af ck bi cy c6)
end Go.Proofs.YtbbdginipiljdaaGreatDoor
namespace Go.AB
open Go Go.RowKit
open Go.AB.Enc (cells)
open Go.PB (aw ai PlaceD bc bf bd bl am af ck bi cy c6)
theorem un1 {so : Nat → Bool} {n k : Nat} {b : List Int} (hb : ez so n k = some b) (h : im (ep n k) b = false) : ez so n (k + 1) = some b := by rw [z6 hb, h, Bool.and_false]; rfl
theorem ufj {p : af} {R C : Nat → Int} (h : Bd p R C) (l : List Int) : Bd p R (kf C l) := ⟨h.r, fun j => by
 have := h.c j
 unfold kf
 cases decide ((j : Int) ∈ l)
 ·exact this
 exact ⟨Int.le_refl _, by show (0 : Int) ≤ 1000000; omega⟩, h.nr, h.np⟩
theorem unn {p : af} {m : Int} (h : cj p ≠ 0) : i0 p m = cj p := by unfold i0; rw [decide_eq_false h]; rfl
theorem unm {p : af} {m : Int} (h : cj p = 0) (hm : m < 0) : i0 p m = 2 := by unfold i0; rw [decide_eq_true h, decide_eq_true hm]; rfl
theorem uno {p : af} {m : Int} (h : cj p = 0) (hm : ¬ m < 0) (ht : gx p = false) : i0 p m = 8 := by unfold i0; rw [decide_eq_true h, decide_eq_false hm, ht]; rfl
theorem unl {p : af} {m : Int} (h : cj p = 0) (hm : ¬ m < 0) (ht : gx p = true) : i0 p m = 0 := by unfold i0; rw [decide_eq_true h, decide_eq_false hm, ht]; rfl
end Go.AB
namespace Go.Proofs.YtbbdginipiljdaaGreatDoor
set_option maxRecDepth 10000
open Go.RowKit Go.AB
open Go.AB.Enc (cells)
open Go.PB (aw ai PlaceD bc bf bd bl am af ck bi cy c6)
end Go.Proofs.YtbbdginipiljdaaGreatDoor
namespace Go.AB
open Go Go.RowKit
open Go.AB.Enc (cells)
open Go.PB (aw ai PlaceD bc bf bd bl am af ck bi cy c6)
/-- whether a set is taken, and how often one was -/
def kj (so : Nat → Bool) (n k : Nat) : Bool := so k && match ez so n k with
 | none => true
 | some b => im (ep n k) b
def ly (so : Nat → Bool) (n : Nat) : Nat → Nat
 | 0 => 0
 | k + 1 => ly so n k + (kj so n k).toNat
theorem xj {so : Nat → Bool} {n k : Nat} (h : kj so n k = true) : ez so n (k + 1) = some (ep n k) ∧ ly so n (k + 1) = ly so n k + 1 := by
 refine ⟨?_, by show ly so n k + (kj so n k).toNat = _; rw [h]; rfl⟩
 unfold kj at h
 rw [Bool.and_eq_true] at h
 cases hb : ez so n k with
 | none => exact un5 hb h.1
 | some b =>
  have h2 := h.2
  rw [hb] at h2
  have h3 : im (ep n k) b = true := h2
  rw [un3 hb h.1, h3]; rfl
theorem xk {so : Nat → Bool} {n k : Nat} (h : kj so n k = false) : ez so n (k + 1) = ez so n k ∧ ly so n (k + 1) = ly so n k := by
 refine ⟨?_, by show ly so n k + (kj so n k).toNat = _; rw [h]; rfl⟩
 unfold kj at h
 cases hs : so k
 ·exact un2 hs
 rw [hs, Bool.true_and] at h
 cases hb : ez so n k with
 | none => rw [hb] at h; cases h
 | some b =>
  rw [hb] at h
  have h3 : im (ep n k) b = false := h
  rw [un1 hb h3]
theorem uhj {so : Nat → Bool} {n k : Nat} (h : so k = false) : kj so n k = false := by unfold kj; rw [h]; rfl
theorem uhk {so : Nat → Bool} {n k : Nat} (h : so k = true) (hb : ez so n k = none) : kj so n k = true := by unfold kj; rw [h, hb]; rfl
theorem uy {so : Nat → Bool} {n k : Nat} {b : List Int} (h : so k = true) (hb : ez so n k = some b) : kj so n k = im (ep n k) b := by unfold kj; rw [h, hb]; rfl
end Go.AB
namespace Go.Proofs.YtbbdginipiljdaaGreatDoor
set_option maxRecDepth 10000
open Go Go.RowKit Go.AB
open Go.AB.Enc (cells)
open Go.PB (aw ai PlaceD bc bf bd bl am af ck bi cy c6)
theorem ubf (m : Nat) : Pure Tryz.prog 54 [.v (.int .i64 (m : Int))] (.fn (.func 89) [.elem [.v (.int .i64 (m : Int))]]) := by
 refine cn Tryz.func54 rfl (fun m => (.fn (bz (.elem (bz .v c4)) c4))) fun G nx => ?_
 simp only [Tryz.ntmps54, List.length_cons, List.length_nil, Nat.reduceAdd, Nat.reduceSub]
 refine bq fun hlt => ?_
 dsimp only at hlt
 refine yS fun _ K1 => ?_
 refine yR ?_
 try dsimp only [St.put]
 refine yB rfl rfl rfl ?_
 refine yA rfl rfl ?_
 refine yN ?_
 dsimp only [St.put]
 refine K1 _ ?_
 refine yS fun _ K2 => ?_
 refine yR ?_
 refine aa rfl (qa rfl rfl) ?_
 refine yA rfl rfl ?_
 refine yN ?_
 dsimp only [St.put]
 refine K2 _ ?_
 refine ar ?_
 refine az rfl (by constructor) zN zS ?_
 rfl
set_option maxHeartbeats 1000000 in
theorem uec (n : Nat) (m : Nat) (so : Nat → Bool) (k0 : FuncId) (caps : List C) [Fun Tryz.prog k0] (hm : m ≤ 8) (hcl : ∀ N, ∀ c ∈ caps, C.low N c) (hso : ∀ s : Nat, s < 2 ^ m → AB.Pure Tryz.prog k0 (.v (.int .i64 (s : Int)) :: lst (ep m s) :: caps) (.v (.bool (so s)))) : er n em Tryz.prog 53 [.fn (.func 89) [.elem [.v (.int .i64 (m : Int))]], .fn (.func k0) caps, .fn (.func 57) []] (lst (ne so m)) := fun G nx hF hnx => by
 refine g9 (G) (nx) Tryz.func53 rfl ((bu _ _)) zN (fun hlt => zH) ?_
 simp only [Tryz.ntmps53, List.length_cons, List.length_nil, Nat.reduceAdd, Nat.reduceSub]
 refine bq fun hlt => ?_
 dsimp only at hlt
 refine yS fun _ K1 => ?_
 refine yR ?_
 try dsimp only [St.put]
 refine yB rfl rfl rfl ?_
 try dsimp only [St.put]
 refine yB rfl rfl rfl ?_
 refine yA rfl rfl ?_
 refine yN ?_
 dsimp only [St.put]
 refine K1 _ ?_
 refine yS fun _ K2 => ?_
 refine yR ?_
 try dsimp only [St.put]
 refine ae rfl (dt rfl ?_)
 refine yN ?_
 dsimp only [St.put]
 refine K2 _ ?_
 refine yS fun _ K3 => ?_
 refine yR ?_
 try dsimp only [St.put]
 refine ae rfl (dt rfl ?_)
 try dsimp only [St.put]
 refine ae rfl (cx rfl rfl rfl zG rfl rfl (by rfl) ?_)
 refine yN ?_
 dsimp only [St.put]
 refine K3 _ ?_
 refine yS fun _ K4 => ?_
 refine yS fun _ K5 => ?_
 refine uaa nx 0 [lst ([] : List Int)] zG zW ?_
 refine yR ?_
 refine yM rfl rfl ?_
 refine yN ?_
 dsimp only [St.put]
 refine K5 _ ?_
 refine ba ?_
 refine cc 12 ?_
 refine zQ ?_
 refine cr ((ak (ak G nx (.box (ly so m 0) [lst ((ez so m 0).getD [])])) (nx + 1) (.box (1 + ly so m 0) [.v (.bool (ez so m 0).isSome)]))) zX ?_
 dsimp only
 refine ufl [12, 13] (fun k => (ak (ak G nx (.box (ly so m k) [lst ((ez so m k).getD [])])) (nx + 1) (.box (1 + ly so m k) [.v (.bool (ez so m k).isSome)]))) (fun k => [(13, lst (ep m k)), (12, .v (.int .i64 (k : Int)))]) (uih n m hm) (fun k => zG) (by (try dsimp only); omega) rfl rfl (fun _ => rfl) ?_ ?_ ?_ (fun lr k hrk => ?_) ?_
 ·intro k
  rfl
 ·exact zX
 ·intro k
  exact zH
 ·have hbl := un4 (so := so) (n := m) (k := k)
  have hml := tr m k
  refine yS fun _ K6 => ?_
  refine yR ?_
  refine yA rfl rfl ?_
  refine yN ?_
  dsimp only [St.put]
  refine K6 _ ?_
  refine yR ?_
  refine yA rfl rfl ?_
  refine yN ?_
  dsimp only [St.put]
  show AW _ _ _ _ _
  refine ba ?_
  refine yS fun _ K7 => ?_
  refine yR ?_
  refine yL rfl rfl rfl ?_
  refine yM rfl rfl ?_
  refine yM rfl rfl ?_
  try dsimp only [St.put]
  refine ae rfl (ay rfl rfl rfl (hso k hrk) ?_)
  refine yM rfl rfl ?_
  refine ef (fun hs => ?_) (fun hs => ?_)
  ·have hw : so k = true := hs
   try dsimp only [St.put]
   refine bw rfl (f3 rfl rfl zG trivial (by first | rfl | assumption)) ?_
   refine aa rfl (dd rfl rfl) ?_
   refine yM rfl rfl ?_
   refine ef (fun hs => ?_) (fun hs => ?_)
   ·have hb0 : ez so m k = none := by simpa using hs
    have htk := xj (uhk hw hb0)
    refine yK rfl ?_
    refine yK rfl ?_
    refine yK rfl ?_
    refine yK rfl ?_
    refine yK rfl ?_
    refine aa rfl (br rfl rfl (by constructor)) ?_
    refine aa rfl (br rfl rfl (by constructor)) ?_
    refine yN ?_
    dsimp only [St.put]
    refine K7 _ ?_
    refine aq rfl (fun _ => ?_) (fun h => by cases h)
    first
    | (have hbf : im (ep m k) b = true := (vf _ _).symm.trans hc
       have htk := xj ((uy hw hb0).trans hbf))
    | skip
    refine yR ?_
    refine yM rfl rfl ?_
    try dsimp only [St.put]
    refine ae rfl (cx rfl rfl rfl zG rfl rfl (by rfl) ?_)
    try dsimp only [St.put]
    refine ae rfl (cx rfl rfl rfl zG rfl rfl (by rfl) ?_)
    refine yN ?_
    dsimp only [St.put]
    dsimp only [si, un]
    first
    | (rw [htk.1, htk.2]
       exact zX)
    | (rw [hke.1, hke.2]
       try rw [hb0]
       exact zX)
   obtain ⟨b, hb0⟩ : ∃ b, ez so m k = some b := by
     cases hb : ez so m k with
     | none => rw [hb] at hs; cases hs
     | some b => exact ⟨b, rfl⟩
   rw [hb0] at hbl
   rw [hb0]
   have hbl2 : b.length ≤ m := hbl
   refine yL rfl rfl rfl ?_
   refine yM rfl rfl ?_
   try dsimp only [St.put]
   refine bw rfl (f3 rfl rfl zG trivial (by first | rfl | assumption)) ?_
   try dsimp only [St.put]
   refine ae rfl (ay rfl rfl rfl (uj0 (ep m k) b (by omega) (by omega)) ?_)
   refine aa rfl (ce rfl rfl rfl) ?_
   refine aa rfl (cb rfl rfl (by constructor)) ?_
   refine aa rfl (br rfl rfl (by constructor)) ?_
   refine yN ?_
   dsimp only [St.put]
   refine K7 _ ?_
   refine aq rfl (fun hc => ?_) (fun hc => ?_)
   ·first
    | (have hbf : im (ep m k) b = true := (vf _ _).symm.trans hc
       have htk := xj ((uy hw hb0).trans hbf))
    | skip
    refine yR ?_
    refine yM rfl rfl ?_
    try dsimp only [St.put]
    refine ae rfl (cx rfl rfl rfl zG rfl rfl (by rfl) ?_)
    try dsimp only [St.put]
    refine ae rfl (cx rfl rfl rfl zG rfl rfl (by rfl) ?_)
    refine yN ?_
    dsimp only [St.put]
    dsimp only [si, un]
    first
    | (rw [htk.1, htk.2]
       exact zX)
    | (rw [hke.1, hke.2]
       try rw [hb0]
       exact zX)
   first
   | (have hbf : im (ep m k) b = false := (vf _ _).symm.trans hc
      have hke := xk ((uy hw hb0).trans hbf))
   | skip
   refine av ?_
   dsimp only [si, un]
   first
   | (rw [htk.1, htk.2]
      exact zX)
   | (rw [hke.1, hke.2]
      try rw [hb0]
      exact zX)
  have hw : so k = false := hs
  have hke := xk (uhj (n := m) hw)
  refine yK rfl ?_
  refine yK rfl ?_
  refine yK rfl ?_
  refine yK rfl ?_
  refine yK rfl ?_
  refine yK rfl ?_
  refine yK rfl ?_
  refine yK rfl ?_
  refine yK rfl ?_
  refine aa rfl (cb rfl rfl (by constructor)) ?_
  refine yN ?_
  dsimp only [St.put]
  refine K7 _ ?_
  refine aq rfl (fun h => by cases h) (fun _ => ?_)
  first
  | (have hbf : im (ep m k) b = false := (vf _ _).symm.trans hc
     have hke := xk ((uy hw hb0).trans hbf))
  | skip
  refine av ?_
  dsimp only [si, un]
  first
  | (rw [htk.1, htk.2]
     exact zX)
  | (rw [hke.1, hke.2]
     try rw [hb0]
     exact zX)
 dsimp only
 refine K4 _ ?_
 refine yS fun _ K8 => ?_
 refine yR ?_
 try dsimp only [St.put]
 refine bw rfl (f3 rfl rfl zG trivial (by first | rfl | assumption)) ?_
 refine yA rfl rfl ?_
 refine yN ?_
 dsimp only [St.put]
 refine K8 _ ?_
 refine ar ?_
 refine az rfl (by constructor) zN zS ?_
 rfl
theorem ujy (p : af) (R C : Nat → Int) (a : Int) (s : Nat) (l : List Int) (h : eb p) (hB : Bd p R C) (hs : s ≤ 1000) : Pure Tryz.prog 55 [.v (.int .i64 (s : Int)), lst l, .elem (cells (f4 p R C)), .elem [.v (.int .i64 a)]] (.v (.bool (decide ((bh p).f R C (fun i => s.testBit i) = a)))) := by
 refine cn Tryz.func55 rfl (fun m => .v) fun G nx => ?_
 simp only [Tryz.ntmps55, List.length_cons, List.length_nil, Nat.reduceAdd, Nat.reduceSub]
 refine bq fun hlt => ?_
 dsimp only at hlt
 refine yS fun _ K1 => ?_
 refine yR ?_
 refine yA rfl rfl ?_
 refine yN ?_
 dsimp only [St.put]
 refine K1 _ ?_
 refine yS fun _ K2 => ?_
 refine f9 [(0, none), (1, none), (3, none), (2, none), (4, none), (5, none)] (fun i => [].contains i) (fun i => [2].contains i) (fun i => [1, 4, 5].contains i) [] (by kernel_rfl) (by kernel_rfl) ?_
 try dsimp only [St.put]
 refine ax rfl rfl rfl rfl (d8 rfl rfl (Enc.len _)) ?_
 refine xM rfl rfl rfl rfl rfl ?_
 try dsimp only [St.put]
 refine ax rfl rfl rfl rfl (bv rfl rfl) ?_
 refine ip ?_
 try dsimp only [St.put]
 refine i7 rfl rfl rfl (ay rfl rfl rfl (ucd p R C s h hB hs) ⟨zD, ?_⟩)
 refine dw rfl rfl rfl rfl (fa rfl rfl rfl) ?_
 refine dw rfl rfl rfl rfl (fb rfl (by constructor)) ?_
 refine io ?_
 dsimp only [St.put]
 refine K2 _ ?_
 refine ar ?_
 refine az rfl (by constructor) zN zS ?_
 rfl
theorem uj7 (p : af) (m : Int) (s : Int) (l : List Int) (h : eb p) (hl : l.length ≤ 1000) (hm : ∀ z ∈ l, 0 ≤ z ∧ z < (p.pages.length : Int)) : Pure Tryz.prog 78 [.v (.int .i64 s), lst l, .elem (cells (f4 p (ci p) (cp p))), .elem [.v (.int .i64 m)]] (.v (.bool (decide (uf3 p l ≤ m)))) := by
 refine cn Tryz.func78 rfl (fun m => .v) fun G nx => ?_
 simp only [Tryz.ntmps78, List.length_cons, List.length_nil, Nat.reduceAdd, Nat.reduceSub]
 refine bq fun hlt => ?_
 dsimp only at hlt
 refine yS fun _ K1 => ?_
 refine yR ?_
 refine yA rfl rfl ?_
 refine yN ?_
 dsimp only [St.put]
 refine K1 _ ?_
 refine yS fun _ K2 => ?_
 refine yR ?_
 refine yE rfl rfl rfl ?_
 try dsimp only [St.put]
 refine ae rfl (dt rfl ?_)
 try dsimp only [St.put]
 refine ae rfl (cx rfl rfl rfl zG rfl rfl (by rfl) ?_)
 refine yN ?_
 dsimp only [St.put]
 rw [show cells (f4 p (ci p) (cp p)) = cells (f4 p (ci p) (kf (cp p) (l.take 0))) by rw [List.take_zero, ugd]]
 refine K2 _ ?_
 refine yS fun _ K3 => ?_
 refine yS fun _ K4 => ?_
 refine yR ?_
 refine yM rfl rfl ?_
 refine aa rfl (bg rfl rfl (List.length_map _)) ?_
 refine yM rfl rfl ?_
 refine yN ?_
 dsimp only [St.put]
 refine K4 _ ?_
 refine ba ?_
 refine cc 14 ?_
 refine zQ ?_
 refine cr ((ak G nx (.box (0 + 1) (cells (f4 p (ci p) (kf (cp p) (l.take 0))))))) zX ?_
 dsimp only
 refine cv (X := Nat) (fun k => k ≤ l.length) (fun k => l.length - k) (fun k => [(8, .any), (9, .any), (13, .v (.int .i64 (k : Int)))]) (fun k G' => (ak G nx (.box (k + 1) (cells (f4 p (ci p) (kf (cp p) (l.take k))))))) 0 rfl ?_ ?_ ?_ ?_ ?_ ?_
 ·exact Nat.zero_le _
 ·exact zF
 ·exact zX
 ·rintro k hI
  exact zL
 ·rintro k hI
  exact zH
 rintro k hI
 dsimp only at hI ⊢
 refine yS fun _ K5 => ?_
 refine yR ?_
 refine aa rfl (ce rfl rfl rfl) ?_
 refine yN ?_
 dsimp only [St.put]
 refine K5 _ ?_
 refine yS fun _ K6 => ?_
 refine aq rfl (fun hc => ?_) (fun hc => ?_)
 ·replace hc := of_decide_eq_true hc
  obtain ⟨z0, hz0⟩ : ∃ z, l[k]? = some z := cw (by omega)
  have hzb := hm z0 (fq hz0)
  obtain ⟨j, rfl⟩ : ∃ j : Nat, z0 = (j : Int) := ⟨z0.toNat, by omega⟩
  have hz := hz0
  obtain ⟨x, hx⟩ : ∃ x, p.pages[j]? = some x := cw (by omega)
  have hB := ufj (uj h) (l.take k)
  refine av ?_
  refine K6 _ ?_
  refine yS fun _ K7 => ?_
  refine ba ?_
  refine yS fun _ K8 => ?_
  refine yR ?_
  refine aa rfl (bk rfl rfl rfl rfl (bj (by assumption)) (Enc.len _)) ?_
  refine yL rfl rfl rfl ?_
  refine yA rfl rfl ?_
  refine yN ?_
  dsimp only [St.put]
  refine K8 _ ?_
  refine yR ?_
  try dsimp only [St.put]
  refine bw rfl (iy rfl rfl zG trivial (by rfl)) ?_
  refine yM rfl rfl ?_
  try dsimp only [St.put]
  refine ae rfl (ay rfl rfl rfl (yb p (ci p) (kf (cp p) (l.take k)) j x 0 h hx (by omega) hB.r) ?_)
  try dsimp only [St.put]
  refine ae rfl (cx rfl rfl rfl zG rfl rfl (by rfl) ?_)
  refine yN ?_
  dsimp only [St.put]
  refine K7 _ ?_
  refine yR ?_
  refine aa rfl (bn rfl rfl rfl (by omega)) ?_
  refine yM rfl rfl ?_
  refine yN ?_
  dsimp only [St.put]
  rw [ulo, ← ugc, ← uay hz]
  exact ⟨k + 1, by omega, by omega, ⟨⟨rfl, rfl⟩, zF, zB, zN, zX⟩⟩
 replace hc := of_decide_eq_false hc
 rw [ga (show l.length ≤ k by omega)]
 refine co ?_
 refine K3 _ ?_
 refine yS fun _ K9 => ?_
 refine f9 [(0, none), (2, none), (1, none), (3, none), (4, none)] (fun i => [].contains i) (fun i => [1].contains i) (fun i => [3, 4].contains i) [nx] (by kernel_rfl) (by kernel_rfl) ?_
 try dsimp only [St.put]
 refine ax rfl rfl rfl rfl (iy rfl rfl zG (by simp) (by rfl)) ?_
 try dsimp only [St.put]
 refine ax rfl rfl rfl rfl (bv rfl rfl) ?_
 refine ip ?_
 try dsimp only [St.put]
 refine i7 rfl rfl rfl (ay rfl rfl rfl (tf p (ci p) (kf (cp p) l) h (ufj (uj h) l)) ⟨zD, ?_⟩)
 refine dw rfl rfl rfl rfl (qb rfl rfl rfl) ?_
 refine dw rfl rfl rfl rfl (fb rfl (by constructor)) ?_
 refine io ?_
 dsimp only [St.put]
 refine K9 _ ?_
 refine ar ?_
 refine az rfl (by constructor) zN zS ?_
 rfl
theorem ubu (p : af) (R Q : Nat → Int) (a : Int) (N : Nat) : ∀ c ∈ [C.elem (cells (f4 p R Q)), C.elem [C.v (.int .i64 a)]], C.low N c := bz (ff _ _) (bz (.elem (bz .v c4)) c4)
set_option maxHeartbeats 1000000 in
theorem ujx (n : Nat) (p : af) : er n em Tryz.prog 17 [val p] (.tup [lst (atE (et p (cj p)) [] (nk p (gw p))), lst (atE (et p (cj p)) [] (mo p (gw p))), .v (.int .i64 (et p (cj p)))]) := fun G nx hF hnx => by
 refine g9 (G) (nx) Tryz.func17 rfl (.tup (bz (bu _ _) (bz (bu _ _) (bz .v c4)))) zN (fun hlt => zH) ?_
 simp only [Tryz.ntmps17, List.length_cons, List.length_nil, Nat.reduceAdd, Nat.reduceSub]
 refine bq fun hlt => ?_
 dsimp only at hlt
 refine yS fun _ K1 => ?_
 refine yR ?_
 try dsimp only [St.put]
 refine yB rfl rfl rfl ?_
 refine yA rfl rfl ?_
 refine yA rfl rfl ?_
 refine yA rfl rfl ?_
 refine yN ?_
 dsimp only [St.put]
 refine K1 _ ?_
 refine yS fun _ K2 => ?_
 by_cases hL : et p (cj p) = 0
 ·refine yR ?_
  refine yE rfl rfl rfl ?_
  try dsimp only [St.put]
  refine ae rfl (dz rfl rfl rfl (n2 n p) zG (by dsimp only [St.put]; omega) ?_)
  refine yX rfl rfl rfl rfl ?_
  refine yX rfl rfl rfl rfl ?_
  try dsimp only [St.put]
  refine ae rfl (dz rfl rfl rfl (td n p (jh p) (cj p) pp hL) zG (by dsimp only [St.put]; omega) ?_)
  refine yM rfl rfl ?_
  refine yX rfl rfl rfl rfl ?_
  refine yX rfl rfl rfl rfl ?_
  try dsimp only [St.put]
  refine ae rfl (dt rfl ?_)
  try dsimp only [St.put]
  refine ae rfl (cx rfl rfl rfl zG rfl rfl (by rfl) ?_)
  refine yA rfl rfl ?_
  refine yN ?_
  dsimp only [St.put]
  refine K2 _ ?_
  refine yS fun _ K3 => ?_
  refine yS fun _ K4 => ?_
  refine yR ?_
  refine yM rfl rfl ?_
  refine aa rfl (eh rfl rfl rfl) ?_
  refine yN ?_
  dsimp only [St.put]
  refine K4 _ ?_
  refine aq rfl (fun hc => ?_) (fun hc => ?_)
  ·exact absurd hc (by decide)
  obtain ⟨h0, hTB⟩ := rm hL
  obtain ⟨hok, _⟩ := lu h0
  have hn1 := hok.nf
  have hn2 := hok.ns
  have hnr : bx p = p.firsts.length + p.seconds.length := rfl
  have hl1 := gd (bx p) (ci p)
  have hB := uj hok
  have h64 : 2 ^ bx p ≤ 2 ^ 6 := Nat.pow_le_pow_right (by omega) (by omega)
  have hwl : (gw p).length ≤ 6 := by
   have := uff (qu p) (bx p)
   show (ne (qu p) (bx p)).length ≤ 6
   omega
  refine av ?_
  refine K3 _ ?_
  refine yS fun _ K5 => ?_
  refine yR ?_
  try dsimp only [St.put]
  refine bw rfl (iy rfl rfl zG trivial (by rfl)) ?_
  try dsimp only [St.put]
  refine ae rfl (ay rfl rfl rfl (tf p (ci p) (cp p) hok hB) ?_)
  try dsimp only [St.put]
  refine ae rfl (dt rfl ?_)
  try dsimp only [St.put]
  refine ae rfl (cx rfl rfl rfl zG rfl rfl (by rfl) ?_)
  refine yN ?_
  dsimp only [St.put]
  refine K5 _ ?_
  refine fu (i := 5) rfl zG zC ?_
  refine fu (i := 6) rfl zG zC ?_
  dsimp only
  refine yS fun _ K6 => ?_
  refine yS fun _ K7 => ?_
  refine yR ?_
  refine yF rfl rfl rfl rfl ?_
  refine yL rfl rfl rfl ?_
  refine aa rfl (bg rfl rfl (List.length_map _)) ?_
  try dsimp only [St.put]
  refine ae rfl (ay rfl rfl rfl (ubf (bp (bx p) (ci p)).length) ?_)
  refine aa rfl (qa rfl rfl) ?_
  try dsimp only [St.put]
  refine ae rfl (dz rfl rfl rfl (uec n (bp (bx p) (ci p)).length (qu p) 55 [.elem (cells (f4 p (ci p) (cp p))), .elem [.v (.int .i64 ((bh p).most (ci p) (cp p)))]] (by rw [hl1]; omega) (ubu p _ _ _) (fun s hs => ujy p (ci p) (cp p) _ s _ hok hB (by rw [hl1] at hs; omega))) zG (by dsimp only [St.put]; omega) ?_)
  refine aa rfl (bg rfl rfl (List.length_map _)) ?_
  refine yM rfl rfl ?_
  refine yN ?_
  dsimp only [St.put]
  rw [hl1, show ne (qu p) (bx p) = gw p from rfl]
  refine K7 _ ?_
  refine ng 2 3 1 rfl (by decide) ?_
  refine ng 3 3 1 rfl (by decide) ?_
  dsimp only [List.set_cons_zero, List.set_cons_succ]
  refine ba ?_
  refine cc 30 ?_
  refine zQ ?_
  refine cr ((ak (ak G (nx + 1 + 1) (.tip (nk p ((gw p).take 0)).length 3 1)) (nx + 1 + 1 + 1) (.tip (mo p ((gw p).take 0)).length 3 1))) zX ?_
  dsimp only
  refine cv (X := Nat) (fun k => k ≤ (gw p).length) (fun k => (gw p).length - k) (fun k => [(2, .list ((nk p ((gw p).take k)).map cells) (.tip (nx + 1 + 1))), (3, .list ((mo p ((gw p).take k)).map cells) (.tip (nx + 1 + 1 + 1))), (8, .any), (29, .v (.int .i64 (k : Int)))]) (fun k G' => (ak (ak G (nx + 1 + 1) (.tip (nk p ((gw p).take k)).length 3 1)) (nx + 1 + 1 + 1) (.tip (mo p ((gw p).take k)).length 3 1))) 0 rfl ?_ ?_ ?_ ?_ ?_ ?_
  ·exact Nat.zero_le _
  ·exact zF
  ·exact zX
  ·rintro k hI
   exact zL
  ·rintro k hI
   exact zH
  rintro k hK
  dsimp only at hK ⊢
  refine yS fun _ K8 => ?_
  refine yR ?_
  refine aa rfl (ce rfl rfl rfl) ?_
  refine yN ?_
  dsimp only [St.put]
  refine K8 _ ?_
  refine yS fun _ K9 => ?_
  refine aq rfl (fun hc => ?_) (fun hc => ?_)
  ·replace hc := of_decide_eq_true hc
   obtain ⟨z, hz⟩ : ∃ z, (gw p)[k]? = some z := cw (by omega)
   have hzb := ugx (fq hz)
   have hF3 := ugy p ((gw p).take k) z
   have hS3 := ugv p ((gw p).take k) z
   rw [← uay hz] at hF3 hS3
   have hlF := ugz p ((gw p).take k)
   have hlS := ugw p ((gw p).take k)
   have hlt2 : ((gw p).take k).length ≤ 6 := by rw [List.length_take]; omega
   refine av ?_
   refine K9 _ ?_
   refine yS fun _ K10 => ?_
   refine ba ?_
   refine yS fun _ K11 => ?_
   refine yR ?_
   refine aa rfl (bk rfl rfl rfl rfl (bj (by assumption)) (Enc.len _)) ?_
   refine yL rfl rfl rfl ?_
   refine yA rfl rfl ?_
   refine yN ?_
   dsimp only [St.put]
   refine K11 _ ?_
   refine yS fun _ K12 => ?_
   refine yR ?_
   refine yM rfl rfl ?_
   refine yF rfl rfl rfl rfl ?_
   refine yL rfl rfl rfl ?_
   refine aa rfl (bg rfl rfl (List.length_map _)) ?_
   refine aa rfl (ce rfl rfl rfl) ?_
   refine yN ?_
   dsimp only [St.put]
   refine K12 _ ?_
   refine aq rfl (fun hc => ?_) (fun hc => ?_)
   ·have hyes := of_decide_eq_true hc
    refine yR ?_
    refine yM rfl rfl ?_
    refine yM rfl rfl ?_
    try dsimp only [St.put]
    refine ae rfl (dm rfl rfl rfl (by decide) (by decide) zR (by decide) ?_)
    try dsimp only [St.put]
    refine ae rfl (jt ([z]) rfl rfl zG zE rfl rfl zA ?_ zA)
    refine yA rfl rfl ?_
    refine yN ?_
    dsimp only [St.put]
    refine K10 _ ?_
    refine yR ?_
    refine aa rfl (bn rfl rfl rfl (by omega)) ?_
    refine yM rfl rfl ?_
    refine yN ?_
    dsimp only [St.put]
    first
    | (have hy2 : z < (p.firsts.length : Int) := hyes
       rw [decide_eq_true hy2, cond_true] at hF3 hS3
       rw [List.append_nil] at hS3
       simp only [← hF3]
       rw [← hS3]
       exact ⟨k + 1, by omega, by omega, ⟨⟨rfl, rfl⟩, zF, zB, zN, zX⟩⟩)
    | (have hy2 : ¬ z < (p.firsts.length : Int) := hno
       rw [decide_eq_false hy2, cond_false] at hF3 hS3
       rw [List.append_nil] at hF3
       simp only [← hS3]
       rw [← hF3]
       exact ⟨k + 1, by omega, by omega, ⟨⟨rfl, rfl⟩, zF, zB, zN, zX⟩⟩)
   have hno := of_decide_eq_false hc
   refine yR ?_
   refine yM rfl rfl ?_
   refine yM rfl rfl ?_
   refine yF rfl rfl rfl rfl ?_
   refine yL rfl rfl rfl ?_
   refine aa rfl (bg rfl rfl (List.length_map _)) ?_
   refine aa rfl (gn rfl rfl rfl (by omega)) ?_
   try dsimp only [St.put]
   refine ae rfl (dm rfl rfl rfl (by decide) (by decide) zR (by decide) ?_)
   try dsimp only [St.put]
   refine ae rfl (jt ([z - (p.firsts.length : Int)]) rfl rfl zG zE rfl rfl zA ?_ zA)
   refine yA rfl rfl ?_
   refine yN ?_
   dsimp only [St.put]
   refine K10 _ ?_
   refine yR ?_
   refine aa rfl (bn rfl rfl rfl (by omega)) ?_
   refine yM rfl rfl ?_
   refine yN ?_
   dsimp only [St.put]
   first
   | (have hy2 : z < (p.firsts.length : Int) := hyes
      rw [decide_eq_true hy2, cond_true] at hF3 hS3
      rw [List.append_nil] at hS3
      simp only [← hF3]
      rw [← hS3]
      exact ⟨k + 1, by omega, by omega, ⟨⟨rfl, rfl⟩, zF, zB, zN, zX⟩⟩)
   | (have hy2 : ¬ z < (p.firsts.length : Int) := hno
      rw [decide_eq_false hy2, cond_false] at hF3 hS3
      rw [List.append_nil] at hF3
      simp only [← hS3]
      rw [← hF3]
      exact ⟨k + 1, by omega, by omega, ⟨⟨rfl, rfl⟩, zF, zB, zN, zX⟩⟩)
  replace hc := of_decide_eq_false hc
  refine co ?_
  refine K6 _ ?_
  refine yS fun _ K13 => ?_
  refine yR ?_
  refine yM rfl rfl ?_
  refine yM rfl rfl ?_
  refine yA rfl rfl ?_
  refine yA rfl rfl ?_
  refine yA rfl rfl ?_
  refine yN ?_
  dsimp only [St.put]
  refine K13 _ ?_
  refine ar ?_
  refine uel rfl (dx (by constructor)) (dx (by constructor)) (dx (by constructor)) zN zS ?_ ?_ ?_
  ·rw [hL, pt, ga (show (gw p).length ≤ k by omega)]; exact zW
  ·rw [hL, pt, ga (show (gw p).length ≤ k by omega)]; exact zW
  rw [hL]; exact zW
 refine yR ?_
 refine yE rfl rfl rfl ?_
 try dsimp only [St.put]
 refine ae rfl (dz rfl rfl rfl (n2 n p) zG (by dsimp only [St.put]; omega) ?_)
 refine yX rfl rfl rfl rfl ?_
 refine yX rfl rfl rfl rfl ?_
 try dsimp only [St.put]
 refine ae rfl (dz rfl rfl rfl (te n p (jh p) (cj p) pp hL) zG (by dsimp only [St.put]; omega) ?_)
 refine yM rfl rfl ?_
 refine yX rfl rfl rfl rfl ?_
 refine yX rfl rfl rfl rfl ?_
 try dsimp only [St.put]
 refine ae rfl (dt rfl ?_)
 try dsimp only [St.put]
 refine ae rfl (cx rfl rfl rfl zG rfl rfl (by rfl) ?_)
 refine yA rfl rfl ?_
 refine yN ?_
 dsimp only [St.put]
 refine K2 _ ?_
 refine yS fun _ K14 => ?_
 refine yS fun _ K15 => ?_
 refine yR ?_
 refine yM rfl rfl ?_
 refine aa rfl (eh rfl rfl rfl) ?_
 refine yN ?_
 dsimp only [St.put]
 refine K15 _ ?_
 refine aq rfl (fun hc => ?_) (fun hc => ?_)
 ·try replace hc := of_decide_eq_true hc
  refine yS fun _ K16 => ?_
  refine yR ?_
  refine yM rfl rfl ?_
  refine yA rfl rfl ?_
  refine yA rfl rfl ?_
  refine yA rfl rfl ?_
  refine yN ?_
  dsimp only [St.put]
  refine K16 _ ?_
  refine ar ?_
  refine uel rfl (dx (by constructor)) (dx (by constructor)) (dx (by constructor)) zN zS ?_ ?_ ?_
  ·rw [lf hL]; exact zW
  ·rw [lf hL]; exact zW
  exact zW
 exact absurd (g3 hc) hL
set_option maxHeartbeats 1000000 in
theorem uj6 (n : Nat) (p : af) (m : Int) : er n em Tryz.prog 35 [val p, .v (.int .i64 m)] (.tup [lst (jy p m), .v (.int .i64 (i0 p m))]) := fun G nx hF hnx => by
 refine g9 (G) (nx) Tryz.func35 rfl (.tup (bz (bu _ _) (bz .v c4))) zN (fun hlt => zH) ?_
 simp only [Tryz.ntmps35, List.length_cons, List.length_nil, Nat.reduceAdd, Nat.reduceSub]
 refine bq fun hlt => ?_
 dsimp only at hlt
 refine yS fun _ K1 => ?_
 refine yR ?_
 try dsimp only [St.put]
 refine yB rfl rfl rfl ?_
 try dsimp only [St.put]
 refine yB rfl rfl rfl ?_
 refine yA rfl rfl ?_
 refine yA rfl rfl ?_
 refine yN ?_
 dsimp only [St.put]
 refine K1 _ ?_
 refine yS fun _ K2 => ?_
 refine yR ?_
 refine yE rfl rfl rfl ?_
 try dsimp only [St.put]
 refine ae rfl (dz rfl rfl rfl (n2 n p) zG (by dsimp only [St.put]; omega) ?_)
 refine yM rfl rfl ?_
 refine yX rfl rfl rfl rfl ?_
 refine yX rfl rfl rfl rfl ?_
 refine yA rfl rfl ?_
 refine yA rfl rfl ?_
 refine yN ?_
 dsimp only [St.put]
 refine K2 _ ?_
 refine yS fun _ K3 => ?_
 refine yS fun _ K4 => ?_
 refine yR ?_
 refine yM rfl rfl ?_
 refine aa rfl (eh rfl rfl rfl) ?_
 refine yN ?_
 dsimp only [St.put]
 refine K4 _ ?_
 refine aq rfl (fun hc => ?_) (fun hc => ?_)
 ·have h0 : cj p ≠ 0 := ji hc
  have hE : i0 p m = cj p := unn h0
  have hV : jy p m = [] := by unfold jy; rw [hE, lf h0]
  refine yS fun _ K5 => ?_
  refine yR ?_
  refine yM rfl rfl ?_
  refine yA rfl rfl ?_
  refine yA rfl rfl ?_
  refine yN ?_
  dsimp only [St.put]
  refine K5 _ ?_
  refine ar ?_
  refine gu rfl (dx (by constructor)) (dx (by constructor)) zN zS ?_ ?_
  ·rw [hV]; exact zW
  rw [hE]; exact zW
 have h0 : cj p = 0 := g3 hc
 obtain ⟨hok, _⟩ := lu h0
 have hnp := hok.np
 refine av ?_
 refine K3 _ ?_
 refine yS fun _ K6 => ?_
 refine yS fun _ K7 => ?_
 refine yR ?_
 refine yL rfl rfl rfl ?_
 refine aa rfl (ce rfl rfl rfl) ?_
 refine yN ?_
 dsimp only [St.put]
 refine K7 _ ?_
 refine aq rfl (fun hc => ?_) (fun hc => ?_)
 ·have hm : m < 0 := of_decide_eq_true hc
  have hE : i0 p m = 2 := unm h0 hm
  have hV : jy p m = [] := by unfold jy; rw [hE, lf (by decide)]
  refine yS fun _ K8 => ?_
  refine yR ?_
  refine yA rfl rfl ?_
  refine yA rfl rfl ?_
  refine yN ?_
  dsimp only [St.put]
  refine K8 _ ?_
  refine ar ?_
  refine gu rfl (dx (by constructor)) (dx (by constructor)) zN zS ?_ ?_
  ·rw [hV]; exact zW
  rw [hE]; exact zW
 have hm : ¬ m < 0 := of_decide_eq_false hc
 refine av ?_
 refine K6 _ ?_
 refine yS fun _ K9 => ?_
 by_cases hL : et p (cj p) = 0
 ·refine yR ?_
  refine yM rfl rfl ?_
  refine yM rfl rfl ?_
  try dsimp only [St.put]
  refine ae rfl (dz rfl rfl rfl (td n p (jh p) (cj p) pp hL) zG (by dsimp only [St.put]; omega) ?_)
  refine yM rfl rfl ?_
  refine yX rfl rfl rfl rfl ?_
  refine yX rfl rfl rfl rfl ?_
  try dsimp only [St.put]
  refine ae rfl (dt rfl ?_)
  try dsimp only [St.put]
  refine ae rfl (cx rfl rfl rfl zG rfl rfl (by rfl) ?_)
  refine yA rfl rfl ?_
  refine yN ?_
  dsimp only [St.put]
  refine K9 _ ?_
  refine fu (i := 8) rfl zG zC ?_
  dsimp only
  refine yS fun _ K10 => ?_
  refine yS fun _ K11 => ?_
  refine yR ?_
  refine yM rfl rfl ?_
  refine aa rfl (eh rfl rfl rfl) ?_
  refine yN ?_
  dsimp only [St.put]
  refine K11 _ ?_
  refine aq rfl (fun hc => ?_) (fun hc => ?_)
  ·exact absurd hc (by decide)
  have hTB := (rm hL).2
  have hE : i0 p m = 0 := unl h0 hm hTB
  have hV : jy p m = ne (uh p m) p.pages.length := by unfold jy; rw [hE, pt]
  refine av ?_
  refine K10 _ ?_
  refine yS fun _ K12 => ?_
  refine yR ?_
  refine yF rfl rfl rfl rfl ?_
  refine yL rfl rfl rfl ?_
  refine aa rfl (bg rfl rfl (List.length_map _)) ?_
  try dsimp only [St.put]
  refine ae rfl (ay rfl rfl rfl (ubf p.pages.length) ?_)
  refine aa rfl (qa rfl rfl) ?_
  try dsimp only [St.put]
  refine ae rfl (dz rfl rfl rfl (uec n p.pages.length (uh p m) 78 [.elem (cells (f4 p (ci p) (cp p))), .elem [.v (.int .i64 m)]] hnp (ubu p _ _ _) (fun s _ => uj7 p m s _ hok (by have := tr p.pages.length s; omega) (fun z hz => by obtain ⟨i, rfl, hi, _⟩ := membersL_mem.1 hz; omega))) zG (by dsimp only [St.put]; omega) ?_)
  refine yA rfl rfl ?_
  refine yA rfl rfl ?_
  refine yN ?_
  dsimp only [St.put]
  refine K12 _ ?_
  refine ar ?_
  refine gu rfl (dx (by constructor)) (dx (by constructor)) zN zS ?_ ?_
  ·rw [hV]; exact zW
  rw [hE]; exact zW
 refine yR ?_
 refine yM rfl rfl ?_
 refine yM rfl rfl ?_
 try dsimp only [St.put]
 refine ae rfl (dz rfl rfl rfl (te n p (jh p) (cj p) pp hL) zG (by dsimp only [St.put]; omega) ?_)
 refine yM rfl rfl ?_
 refine yX rfl rfl rfl rfl ?_
 refine yX rfl rfl rfl rfl ?_
 try dsimp only [St.put]
 refine ae rfl (dt rfl ?_)
 try dsimp only [St.put]
 refine ae rfl (cx rfl rfl rfl zG rfl rfl (by rfl) ?_)
 refine yA rfl rfl ?_
 refine yN ?_
 dsimp only [St.put]
 refine K9 _ ?_
 refine fu (i := 8) rfl zG zC ?_
 dsimp only
 refine yS fun _ K13 => ?_
 refine yS fun _ K14 => ?_
 refine yR ?_
 refine yM rfl rfl ?_
 refine aa rfl (eh rfl rfl rfl) ?_
 refine yN ?_
 dsimp only [St.put]
 refine K14 _ ?_
 refine aq rfl (fun hc => ?_) (fun hc => ?_)
 ·have hTB : gx p = false := by
   cases h : gx p
   ·rfl
   exact absurd (by rw [h0, rk, h]; rfl) hL
  have hE : i0 p m = 8 := uno h0 hm hTB
  have hV : jy p m = [] := by unfold jy; rw [hE, lf (by decide)]
  have hL8 : et p (cj p) = 8 := by rw [h0, rk, hTB]; rfl
  refine yS fun _ K15 => ?_
  refine yR ?_
  refine yM rfl rfl ?_
  refine yA rfl rfl ?_
  refine yA rfl rfl ?_
  refine yN ?_
  dsimp only [St.put]
  refine K15 _ ?_
  refine ar ?_
  refine gu rfl (dx (by constructor)) (dx (by constructor)) zN zS ?_ ?_
  ·rw [hV]; exact zW
  rw [hE, hL8]; exact zW
 exact absurd (g3 hc) hL
end Go.Proofs.YtbbdginipiljdaaGreatDoor
namespace Go.AB
open Go Go.RowKit
open Go.AB.Enc (cells)
open Go.PB (aw ai PlaceD bc bf bd bl am af ck bi cy c6)
def qz (p : af) : Bool := !oe p && decide (cj p = 0)
section
variable {P : Program} {o : Oper} {st : St} {K : St → Prop}
/-- What stands in a slot is known less well, ahead of an operation. -/
theorem e_wk (i : Nat) {c : C} (c' : C) (h0 : st.at i = c) (hw : Wk c c') (h : EStep P o { st with r := (i, c') :: st.r } K) : EStep P o st K := by
 intro E w a hs
 have hp := hs.at i
 rw [h0] at hp
 refine h E w a ⟨hs.d, hs.sz, fun j v hj => ?_, hs.g⟩
 simp only [cm]
 cases hb : Nat.beq i j
 ·exact hs.t j v hj
 have hij := Nat.eq_of_beq_eq_true hb
 subst hij
 have hv : a.tmps.getD i undef = v := by rw [Array.getD_eq_getD_getElem?, hj]; rfl
 rw [hv] at hp
 exact hw.2 _ _ _ hp
end
theorem lh {α : Type} [Enc α] (l : List α) : ∀ r ∈ l.map cells, r.length = Enc.n α := fun r hr => by
 obtain ⟨y, _, rfl⟩ := List.mem_map.1 hr
 exact Enc.len y
theorem readyP_true {p : af} : qz p = true ↔ oe p = false ∧ cj p = 0 := by simp [qz]
end Go.AB
namespace Go.Proofs.YtbbdginipiljdaaGreatDoor
set_option maxRecDepth 10000
open Go Go.RowKit Go.AB
open Go.AB.Enc (cells)
open Go.PB (aw ai PlaceD bc bf bd bl am af ck bi cy c6)
theorem udn (a : List PlaceD) : Pure Tryz.prog 61 [lst a, lst a] (.v (.bool true)) := by
 have := uoz a a
 rwa [decide_eq_true rfl] at this
theorem udo (a : List Int) (ha : a.length ≤ 1000) : Pure Tryz.prog 19 [lst a, lst a] (.v (.bool true)) := by
 have := ub1 a a ha
 rwa [decide_eq_true rfl] at this
theorem qf (a b c : Int) : Pure Tryz.prog 68 [.v (.int .i64 a), .v (.int .i64 b), .v (.int .i64 c)] (val (⟨a, b, c⟩ : PlaceD)) := by
 refine cn Tryz.func68 rfl (fun m => (ec _ _)) fun G nx => ?_
 simp only [Tryz.ntmps68, List.length_cons, List.length_nil, Nat.reduceAdd, Nat.reduceSub]
 refine bq fun hlt => ?_
 dsimp only at hlt
 refine yS fun _ K1 => ?_
 refine yR ?_
 try dsimp only [St.put]
 refine ae rfl (dt rfl ?_)
 refine yN ?_
 dsimp only [St.put]
 refine K1 _ ?_
 refine yS fun _ K2 => ?_
 refine yR ?_
 refine yM rfl rfl ?_
 refine yM rfl rfl ?_
 refine yM rfl rfl ?_
 refine aa rfl (g5 rfl rfl) ?_
 try dsimp only [St.put]
 refine ae rfl (cx rfl rfl rfl zG rfl rfl (by rfl) ?_)
 refine yN ?_
 dsimp only [St.put]
 refine K2 _ ?_
 refine ar ?_
 refine pn rfl (jv rfl zG (by rfl) zC rfl) zN zS ?_
 exact zW
theorem t8 (l : List PlaceD) : Pure Tryz.prog 67 [lst l] (lst l) := by
 refine cn Tryz.func67 rfl (fun m => (bu _ _)) fun G nx => ?_
 simp only [Tryz.ntmps67, List.length_cons, List.length_nil, Nat.reduceAdd, Nat.reduceSub]
 refine bq fun hlt => ?_
 dsimp only at hlt
 refine yS fun _ K1 => ?_
 refine yR ?_
 refine yA rfl rfl ?_
 refine yN ?_
 dsimp only [St.put]
 refine K1 _ ?_
 refine yS fun _ K2 => ?_
 refine yR ?_
 refine yM rfl rfl ?_
 refine yA rfl rfl ?_
 refine yN ?_
 dsimp only [St.put]
 refine K2 _ ?_
 refine ar ?_
 refine az rfl (by constructor) zN zS ?_
 rfl
theorem m6 : Pure Tryz.prog 63 [] (val exPr) := by
 refine cn Tryz.func63 rfl (fun m => (ec _ _)) fun G nx => ?_
 simp only [Tryz.ntmps63, List.length_cons, List.length_nil, Nat.reduceAdd, Nat.reduceSub]
 refine bq fun hlt => ?_
 dsimp only at hlt
 refine yS fun _ K1 => ?_
 refine yR ?_
 try dsimp only [St.put]
 refine ae rfl (dt rfl ?_)
 refine yN ?_
 dsimp only [St.put]
 refine K1 _ ?_
 refine yS fun _ K2 => ?_
 refine yR ?_
 try dsimp only [St.put]
 refine ae rfl (dm (rows := ([mj, iw, xIs, ml] : List ByteArray).map cells) rfl rfl rfl (by decide) (by decide) (lh _) (by decide) ?_)
 try dsimp only [St.put]
 refine ae rfl (dm (rows := ([ml, mj, iw] : List ByteArray).map cells) rfl rfl rfl (by decide) (by decide) (lh _) (by decide) ?_)
 try dsimp only [St.put]
 refine ae rfl (dm (rows := ([[mj, iw, xIs, ml], [ml, mj, iw]] : List (List ByteArray)).map cells) rfl rfl rfl (by decide) (by decide) (lh _) (by decide) ?_)
 refine aa rfl (g5 (cs := cells (⟨7, [[mj, iw, xIs, ml], [ml, mj, iw]]⟩ : aw)) rfl rfl) ?_
 try dsimp only [St.put]
 refine ae rfl (dm (rows := ([iw, sj, iw] : List ByteArray).map cells) rfl rfl rfl (by decide) (by decide) (lh _) (by decide) ?_)
 try dsimp only [St.put]
 refine ae rfl (dm (rows := ([[iw, sj, iw]] : List (List ByteArray)).map cells) rfl rfl rfl (by decide) (by decide) (lh _) (by decide) ?_)
 refine aa rfl (g5 (cs := cells (⟨3, [[iw, sj, iw]]⟩ : aw)) rfl rfl) ?_
 try dsimp only [St.put]
 refine ae rfl (dm (rows := ([⟨7, [[mj, iw, xIs, ml], [ml, mj, iw]]⟩, ⟨3, [[iw, sj, iw]]⟩] : List aw).map cells) rfl rfl rfl (by decide) (by decide) (lh _) (by decide) ?_)
 refine aa rfl (g5 (cs := [lst exTx]) rfl rfl) ?_
 refine aa rfl (g5 (cs := cells (⟨1, 50⟩ : bl)) rfl rfl) ?_
 refine aa rfl (g5 (cs := cells (⟨2, 0⟩ : bl)) rfl rfl) ?_
 try dsimp only [St.put]
 refine ae rfl (dm (rows := ([⟨1, 50⟩, ⟨2, 0⟩] : List bl).map cells) rfl rfl rfl (by decide) (by decide) (lh _) (by decide) ?_)
 refine aa rfl (g5 (cs := cells (⟨3, 60⟩ : bl)) rfl rfl) ?_
 try dsimp only [St.put]
 refine ae rfl (dm (rows := ([⟨3, 60⟩] : List bl).map cells) rfl rfl rfl (by decide) (by decide) (lh _) (by decide) ?_)
 try dsimp only [St.put]
 refine ae rfl (ay rfl rfl rfl (qf _ _ _) ?_)
 try dsimp only [St.put]
 refine ae rfl (dm (rows := ([⟨0, 0, 0⟩] : List PlaceD).map cells) rfl rfl rfl (by decide) (by decide) (lh _) (by decide) ?_)
 try dsimp only [St.put]
 refine ae rfl (ay rfl rfl rfl (t8 [⟨0, 0, 0⟩]) ?_)
 try dsimp only [St.put]
 refine ae rfl (ay rfl rfl rfl (qf _ _ _) ?_)
 try dsimp only [St.put]
 refine ae rfl (ay rfl rfl rfl (qf _ _ _) ?_)
 try dsimp only [St.put]
 refine ae rfl (dm (rows := ([⟨0, 0, 0⟩, ⟨0, 0, 3⟩] : List PlaceD).map cells) rfl rfl rfl (by decide) (by decide) (lh _) (by decide) ?_)
 try dsimp only [St.put]
 refine ae rfl (ay rfl rfl rfl (t8 [⟨0, 0, 0⟩, ⟨0, 0, 3⟩]) ?_)
 refine aa rfl (g5 (cs := cells (⟨0, 0, 0, 0, [⟨0, 0, 0⟩], [⟨0, 0, 0⟩, ⟨0, 0, 3⟩]⟩ : am)) rfl rfl) ?_
 try dsimp only [St.put]
 refine ae rfl (ay rfl rfl rfl (qf _ _ _) ?_)
 try dsimp only [St.put]
 refine ae rfl (dm (rows := ([⟨0, 1, 1⟩] : List PlaceD).map cells) rfl rfl rfl (by decide) (by decide) (lh _) (by decide) ?_)
 try dsimp only [St.put]
 refine ae rfl (ay rfl rfl rfl (t8 [⟨0, 1, 1⟩]) ?_)
 refine aa rfl (g5 (cs := [.v (.int .i64 1), .v (.int .i64 2), .v (.int .i64 0), .v (.int .i64 (-1)), lst ([⟨0, 1, 1⟩] : List PlaceD), .list [] .nil]) rfl rfl) ?_
 try dsimp only [St.put]
 refine ae rfl (e_wk 26 (val (⟨1, 2, 0, -1, [⟨0, 1, 1⟩], []⟩ : am)) rfl (by show Wk _ (.agg _); exact zW) ?_)
 dsimp only
 refine dm (rows := ([⟨0, 0, 0, 0, [⟨0, 0, 0⟩], [⟨0, 0, 0⟩, ⟨0, 0, 3⟩]⟩, ⟨1, 2, 0, -1, [⟨0, 1, 1⟩], []⟩] : List am).map cells) rfl rfl rfl (by decide) (by decide) (lh _) (by decide) ?_
 refine aa rfl (g5 (cs := [lst exTx, lst exPr.firsts, lst exPr.seconds, lst exPr.pages]) rfl rfl) ?_
 try dsimp only [St.put]
 refine ae rfl (cx rfl rfl rfl zG rfl rfl (by rfl) ?_)
 refine yN ?_
 dsimp only [St.put]
 refine K2 _ ?_
 refine ar ?_
 refine pn rfl (jv rfl zG (by rfl) zC rfl) zN zS ?_
 exact zW
theorem ul7 (n : Nat) (b : Bool) (r want : Int) : er n em Tryz.prog 69 [.v (.bool b), .v (.int .i64 r), .v (.int .i64 want)] (.v (.bool (decide (j3 exPr b r = 0) && decide (oq exPr b r = want)))) := fun G nx hF hnx => by
 refine g9 (G) (nx) Tryz.func69 rfl (.v) zN (fun hlt => zH) ?_
 simp only [Tryz.ntmps69, List.length_cons, List.length_nil, Nat.reduceAdd, Nat.reduceSub]
 refine bq fun hlt => ?_
 dsimp only at hlt
 refine yS fun _ K1 => ?_
 refine yR ?_
 refine yA rfl rfl ?_
 refine yN ?_
 dsimp only [St.put]
 refine K1 _ ?_
 refine yS fun _ K2 => ?_
 refine yR ?_
 try dsimp only [St.put]
 refine ae rfl (ay rfl rfl rfl (m6) ?_)
 refine yM rfl rfl ?_
 refine yM rfl rfl ?_
 try dsimp only [St.put]
 refine ae rfl (dz rfl rfl rfl (uj8 n exPr b r) zG (by dsimp only [St.put]; omega) ?_)
 refine yM rfl rfl ?_
 refine yX rfl rfl rfl rfl ?_
 refine yX rfl rfl rfl rfl ?_
 refine yA rfl rfl ?_
 refine yA rfl rfl ?_
 refine yN ?_
 dsimp only [St.put]
 refine K2 _ ?_
 refine yS fun _ K3 => ?_
 refine yR ?_
 refine yM rfl rfl ?_
 refine aa rfl (fa rfl rfl rfl) ?_
 refine ef (fun hs => ?_) (fun hs => ?_)
 ·have h1 : decide (j3 exPr b r = 0) = true := hs
  refine yM rfl rfl ?_
  refine yM rfl rfl ?_
  refine yM rfl rfl ?_
  refine aa rfl (fa rfl rfl rfl) ?_
  refine aa rfl (br rfl rfl (by constructor)) ?_
  refine yA rfl rfl ?_
  refine yN ?_
  dsimp only [St.put]
  refine K3 _ ?_
  refine ar ?_
  refine az rfl (by constructor) zN zS ?_
  exact vb (by rw [h1]; rfl)
 have h1 : decide (j3 exPr b r = 0) = false := hs
 refine yM rfl rfl ?_
 refine yK rfl ?_
 refine yK rfl ?_
 refine yK rfl ?_
 refine aa rfl (cb rfl rfl (by constructor)) ?_
 refine yA rfl rfl ?_
 refine yN ?_
 dsimp only [St.put]
 refine K3 _ ?_
 refine ar ?_
 refine az rfl (by constructor) zN zS ?_
 exact vb (by rw [h1]; rfl)
theorem ul6 (n : Nat) (m : Int) (want : List Int) : er n em Tryz.prog 70 [.v (.int .i64 m), lst want] (.v (.bool (decide (i0 exPr m = 0) && decide (jy exPr m = want)))) := fun G nx hF hnx => by
 refine g9 (G) (nx) Tryz.func70 rfl (.v) zN (fun hlt => zH) ?_
 simp only [Tryz.ntmps70, List.length_cons, List.length_nil, Nat.reduceAdd, Nat.reduceSub]
 refine bq fun hlt => ?_
 dsimp only at hlt
 have hcl : (jy exPr m).length ≤ 1000 := by
  unfold jy atE
  cases decide (i0 exPr m = 0)
  ·exact Nat.zero_le _
  have := uff (uh exPr m) exPr.pages.length
  have e : exPr.pages.length = 2 := rfl
  show (ne (uh exPr m) exPr.pages.length).length ≤ 1000
  omega
 refine yS fun _ K1 => ?_
 refine yR ?_
 refine yA rfl rfl ?_
 refine yN ?_
 dsimp only [St.put]
 refine K1 _ ?_
 refine yS fun _ K2 => ?_
 refine yR ?_
 try dsimp only [St.put]
 refine ae rfl (ay rfl rfl rfl (m6) ?_)
 refine yM rfl rfl ?_
 try dsimp only [St.put]
 refine ae rfl (dz rfl rfl rfl (uj6 n exPr m) zG (by dsimp only [St.put]; omega) ?_)
 refine yM rfl rfl ?_
 refine yX rfl rfl rfl rfl ?_
 refine yX rfl rfl rfl rfl ?_
 refine yA rfl rfl ?_
 refine yA rfl rfl ?_
 refine yN ?_
 dsimp only [St.put]
 refine K2 _ ?_
 refine yS fun _ K3 => ?_
 refine yR ?_
 refine yM rfl rfl ?_
 refine aa rfl (fa rfl rfl rfl) ?_
 refine ef (fun hs => ?_) (fun hs => ?_)
 ·have h1 : decide (i0 exPr m = 0) = true := hs
  refine yM rfl rfl ?_
  refine yM rfl rfl ?_
  refine yM rfl rfl ?_
  try dsimp only [St.put]
  refine ae rfl (ay rfl rfl rfl (ub1 (jy exPr m) want hcl) ?_)
  refine aa rfl (br rfl rfl (by constructor)) ?_
  refine yA rfl rfl ?_
  refine yN ?_
  dsimp only [St.put]
  refine K3 _ ?_
  refine ar ?_
  refine az rfl (by constructor) zN zS ?_
  exact vb (by rw [h1]; rfl)
 have h1 : decide (i0 exPr m = 0) = false := hs
 refine yM rfl rfl ?_
 refine yK rfl ?_
 refine yK rfl ?_
 refine yK rfl ?_
 refine aa rfl (cb rfl rfl (by constructor)) ?_
 refine yA rfl rfl ?_
 refine yN ?_
 dsimp only [St.put]
 refine K3 _ ?_
 refine ar ?_
 refine az rfl (by constructor) zN zS ?_
 exact vb (by rw [h1]; rfl)
theorem uom (n : Nat) : er n em Tryz.prog 62 [val exPr, .v (.int .i64 1)] (.tup [.v (.int .i64 6), .v (.int .i64 0)]) := by
 have := uju n exPr 1
 rwa [xp_words.1, xp_words.2.1] at this
theorem uoq (n : Nat) : er n em Tryz.prog 64 [val exPr, .v (.int .i64 0)] (.tup [lst ([⟨0, 0, 0⟩, ⟨0, 0, 3⟩] : List PlaceD), .v (.int .i64 0)]) := by
 have := ucg n exPr 0
 rwa [xp_found.1, xp_words.2.2.2] at this
theorem uot (n : Nat) : er n em Tryz.prog 65 [val exPr, .v (.int .i64 0)] (.tup [lst ([⟨0, 0, 0⟩] : List PlaceD), .v (.int .i64 0)]) := by
 have := uj9 n exPr 0
 rwa [xp_found.2, xp_words.2.2.2] at this
theorem uop (n : Nat) : er n em Tryz.prog 66 [val exPr, .v (.int .i64 0)] (.tup [val (⟨2, 2⟩ : bi), .v (.int .i64 0)]) := by
 have := uj5 n exPr 0
 rwa [xp_guess.1, xp_guess.2] at this
theorem uoo (n : Nat) : er n em Tryz.prog 11 [val exPr, .v (.int .i64 1)] (.tup [val (⟨0, 1⟩ : bi), .v (.int .i64 0)]) := by
 have := ucc n exPr 1
 rwa [xp_remain.1, xp_remain.2.1] at this
theorem uon (n : Nat) : er n em Tryz.prog 13 [val exPr] (.tup [val (⟨0, 1⟩ : bi), .v (.int .i64 0)]) := by
 have := yc n exPr
 rwa [ugf, uq] at this
theorem uol (n : Nat) : er n em Tryz.prog 15 [val exPr] (.tup [lst ([1, 0] : List Int), .v (.int .i64 0)]) := by
 have := ya n exPr
 rwa [uge, uq] at this
theorem alWhy (n : Nat) : er n em Tryz.prog 17 [val exPr] (.tup [lst ([0] : List Int), lst ([] : List Int), .v (.int .i64 0)]) := by
 have := ujx n exPr
 rwa [uq, pt, pt, xp_why.1, xp_why.2] at this
theorem uos (n : Nat) : er n em Tryz.prog 69 [.v (.bool false), .v (.int .i64 0), .v (.int .i64 4)] (.v (.bool true)) := by
 have := ul7 n false 0 4
 rwa [xp_bound.1, xp_bound.2.1] at this
theorem uor (n : Nat) : er n em Tryz.prog 70 [.v (.int .i64 0), lst ([0, 1] : List Int)] (.v (.bool true)) := by
 have := ul6 n 0 [0, 1]
 rwa [xp_chief.1, xp_chief.2.1] at this
set_option maxHeartbeats 4000000 in
theorem uok (n : Nat) : er n em Tryz.prog 21 [] (.v (.bool true)) := fun G nx hF hnx => by
 refine g9 (G) (nx) Tryz.func21 rfl (.v) zN (fun hlt => zH) ?_
 simp only [Tryz.ntmps21, List.length_cons, List.length_nil, Nat.reduceAdd, Nat.reduceSub]
 refine bq fun hlt => ?_
 dsimp only at hlt
 refine yS fun _ K1 => ?_
 refine yR ?_
 refine yA rfl rfl ?_
 refine yN ?_
 dsimp only [St.put]
 refine K1 _ ?_
 refine yS fun _ K2 => ?_
 refine yR ?_
 try dsimp only [St.put]
 refine ae rfl (ay rfl rfl rfl (m6) ?_)
 try dsimp only [St.put]
 refine ae rfl ((dz rfl rfl rfl ((uom n)) zG (by dsimp only [St.put]; omega) ?_))
 refine yM rfl rfl ?_
 refine yX rfl rfl rfl rfl ?_
 refine yX rfl rfl rfl rfl ?_
 refine yA rfl rfl ?_
 refine yA rfl rfl ?_
 refine yN ?_
 dsimp only [St.put]
 refine K2 _ ?_
 refine yS fun _ K3 => ?_
 refine yR ?_
 try dsimp only [St.put]
 refine ae rfl (ay rfl rfl rfl (m6) ?_)
 try dsimp only [St.put]
 refine ae rfl ((dz rfl rfl rfl ((uoq n)) zG (by dsimp only [St.put]; omega) ?_))
 refine yM rfl rfl ?_
 refine yX rfl rfl rfl rfl ?_
 refine yX rfl rfl rfl rfl ?_
 refine yA rfl rfl ?_
 refine yA rfl rfl ?_
 refine yN ?_
 dsimp only [St.put]
 refine K3 _ ?_
 refine yS fun _ K4 => ?_
 refine yR ?_
 try dsimp only [St.put]
 refine ae rfl (ay rfl rfl rfl (m6) ?_)
 try dsimp only [St.put]
 refine ae rfl ((dz rfl rfl rfl ((uot n)) zG (by dsimp only [St.put]; omega) ?_))
 refine yM rfl rfl ?_
 refine yX rfl rfl rfl rfl ?_
 refine yX rfl rfl rfl rfl ?_
 refine yA rfl rfl ?_
 refine yA rfl rfl ?_
 refine yN ?_
 dsimp only [St.put]
 refine K4 _ ?_
 refine yS fun _ K5 => ?_
 refine yR ?_
 try dsimp only [St.put]
 refine ae rfl (ay rfl rfl rfl (m6) ?_)
 try dsimp only [St.put]
 refine ae rfl ((dz rfl rfl rfl ((uop n)) zG (by dsimp only [St.put]; omega) ?_))
 refine yM rfl rfl ?_
 refine yX rfl rfl rfl rfl ?_
 refine yX rfl rfl rfl rfl ?_
 try dsimp only [St.put]
 refine ae rfl (dt rfl ?_)
 try dsimp only [St.put]
 refine ae rfl (cx rfl rfl rfl zG rfl rfl (by rfl) ?_)
 refine yA rfl rfl ?_
 refine yN ?_
 dsimp only [St.put]
 refine K5 _ ?_
 refine fu (i := 7) rfl zG zC ?_
 dsimp only
 refine yS fun _ K6 => ?_
 refine yR ?_
 try dsimp only [St.put]
 refine ae rfl (ay rfl rfl rfl (m6) ?_)
 try dsimp only [St.put]
 refine ae rfl ((dz rfl rfl rfl ((uoo n)) zG (by dsimp only [St.put]; omega) ?_))
 refine yM rfl rfl ?_
 refine yX rfl rfl rfl rfl ?_
 refine yX rfl rfl rfl rfl ?_
 try dsimp only [St.put]
 refine ae rfl (dt rfl ?_)
 try dsimp only [St.put]
 refine ae rfl (cx rfl rfl rfl zG rfl rfl (by rfl) ?_)
 refine yA rfl rfl ?_
 refine yN ?_
 dsimp only [St.put]
 refine K6 _ ?_
 refine fu (i := 9) rfl zG zC ?_
 dsimp only
 refine yS fun _ K7 => ?_
 refine yR ?_
 try dsimp only [St.put]
 refine ae rfl (ay rfl rfl rfl (m6) ?_)
 try dsimp only [St.put]
 refine ae rfl ((dz rfl rfl rfl ((uon n)) zG (by dsimp only [St.put]; omega) ?_))
 refine yM rfl rfl ?_
 refine yX rfl rfl rfl rfl ?_
 refine yX rfl rfl rfl rfl ?_
 try dsimp only [St.put]
 refine ae rfl (dt rfl ?_)
 try dsimp only [St.put]
 refine ae rfl (cx rfl rfl rfl zG rfl rfl (by rfl) ?_)
 refine yA rfl rfl ?_
 refine yN ?_
 dsimp only [St.put]
 refine K7 _ ?_
 refine fu (i := 11) rfl zG zC ?_
 dsimp only
 refine yS fun _ K8 => ?_
 refine yR ?_
 try dsimp only [St.put]
 refine ae rfl (ay rfl rfl rfl (m6) ?_)
 try dsimp only [St.put]
 refine ae rfl ((dz rfl rfl rfl ((uol n)) zG (by dsimp only [St.put]; omega) ?_))
 refine yM rfl rfl ?_
 refine yX rfl rfl rfl rfl ?_
 refine yX rfl rfl rfl rfl ?_
 refine yA rfl rfl ?_
 refine yA rfl rfl ?_
 refine yN ?_
 dsimp only [St.put]
 refine K8 _ ?_
 refine yS fun _ K9 => ?_
 refine yR ?_
 try dsimp only [St.put]
 refine ae rfl (ay rfl rfl rfl (m6) ?_)
 try dsimp only [St.put]
 refine ae rfl ((dz rfl rfl rfl ((alWhy n)) zG (by dsimp only [St.put]; omega) ?_))
 refine yM rfl rfl ?_
 refine yX rfl rfl rfl rfl ?_
 refine yX rfl rfl rfl rfl ?_
 refine yX rfl rfl rfl rfl ?_
 refine yA rfl rfl ?_
 refine yA rfl rfl ?_
 refine yA rfl rfl ?_
 refine yN ?_
 dsimp only [St.put]
 refine K9 _ ?_
 refine yS fun _ K10 => ?_
 refine cc 18 ?_
 refine zQ ?_
 refine cr G zX ?_
 dsimp only
 refine yR ?_
 refine yM rfl rfl ?_
 refine aa rfl (d9 (fa rfl rfl rfl) (decide_eq_true (by omega))) ?_
 refine yM rfl rfl ?_
 refine yM rfl rfl ?_
 ((first | refine aa rfl ((d9 (c := true) (fa rfl rfl rfl) (decide_eq_true rfl))) ?_ | refine ah rfl rfl rfl rfl ((d9 (c := true) (fa rfl rfl rfl) (decide_eq_true rfl))) ?_ | refine dw rfl rfl rfl rfl ((d9 (c := true) (fa rfl rfl rfl) (decide_eq_true rfl))) ?_ | refine ul rfl rfl rfl ((d9 (c := true) (fa rfl rfl rfl) (decide_eq_true rfl))) ?_))
 refine aa rfl (br rfl rfl (by constructor)) ?_
 refine yM rfl rfl ?_
 refine yM rfl rfl ?_
 refine aa rfl (d9 (fa rfl rfl rfl) (decide_eq_true (by omega))) ?_
 refine aa rfl (br rfl rfl (by constructor)) ?_
 refine yM rfl rfl ?_
 refine yM rfl rfl ?_
 try dsimp only [St.put]
 refine ae rfl (ay rfl rfl rfl (qf _ _ _) ?_)
 try dsimp only [St.put]
 refine ae rfl (ay rfl rfl rfl (qf _ _ _) ?_)
 try dsimp only [St.put]
 refine ae rfl (dm rfl rfl rfl (by decide) (by decide) zR (by decide) ?_)
 try dsimp only [St.put]
 refine ae rfl (ay rfl rfl rfl (t8 [⟨0, 0, 0⟩, ⟨0, 0, 3⟩]) ?_)
 try dsimp only [St.put]
 refine ae rfl (ay rfl rfl rfl (udn [⟨0, 0, 0⟩, ⟨0, 0, 3⟩]) ?_)
 refine aa rfl (br rfl rfl (by constructor)) ?_
 refine yM rfl rfl ?_
 refine yM rfl rfl ?_
 refine aa rfl (d9 (fa rfl rfl rfl) (decide_eq_true (by omega))) ?_
 refine aa rfl (br rfl rfl (by constructor)) ?_
 refine yM rfl rfl ?_
 refine yM rfl rfl ?_
 try dsimp only [St.put]
 refine ae rfl (ay rfl rfl rfl (qf _ _ _) ?_)
 try dsimp only [St.put]
 refine ae rfl (dm rfl rfl rfl (by decide) (by decide) zR (by decide) ?_)
 try dsimp only [St.put]
 refine ae rfl (ay rfl rfl rfl (t8 [⟨0, 0, 0⟩]) ?_)
 try dsimp only [St.put]
 refine ae rfl (ay rfl rfl rfl (udn [⟨0, 0, 0⟩]) ?_)
 refine aa rfl (br rfl rfl (by constructor)) ?_
 refine yM rfl rfl ?_
 try dsimp only [St.put]
 refine ae rfl ((dz rfl rfl rfl ((uos n)) zG (by dsimp only [St.put]; omega) ?_))
 refine aa rfl (br rfl rfl (by constructor)) ?_
 refine yM rfl rfl ?_
 refine yM rfl rfl ?_
 refine aa rfl (d9 (fa rfl rfl rfl) (decide_eq_true (by omega))) ?_
 refine aa rfl (br rfl rfl (by constructor)) ?_
 refine yM rfl rfl ?_
 refine yE rfl rfl rfl ?_
 refine aa rfl (g5 rfl rfl) ?_
 ((first | refine aa rfl ((d9 (c := true) (ku (x := (⟨2, 2⟩ : bi)) (y := (⟨2, 2⟩ : bi)) rfl rfl rfl) (decide_eq_true rfl))) ?_ | refine ah rfl rfl rfl rfl ((d9 (c := true) (ku (x := (⟨2, 2⟩ : bi)) (y := (⟨2, 2⟩ : bi)) rfl rfl rfl) (decide_eq_true rfl))) ?_ | refine dw rfl rfl rfl rfl ((d9 (c := true) (ku (x := (⟨2, 2⟩ : bi)) (y := (⟨2, 2⟩ : bi)) rfl rfl rfl) (decide_eq_true rfl))) ?_ | refine ul rfl rfl rfl ((d9 (c := true) (ku (x := (⟨2, 2⟩ : bi)) (y := (⟨2, 2⟩ : bi)) rfl rfl rfl) (decide_eq_true rfl))) ?_))
 refine aa rfl (br rfl rfl (by constructor)) ?_
 refine yM rfl rfl ?_
 refine yM rfl rfl ?_
 refine aa rfl (d9 (fa rfl rfl rfl) (decide_eq_true (by omega))) ?_
 refine aa rfl (br rfl rfl (by constructor)) ?_
 refine yM rfl rfl ?_
 refine yE rfl rfl rfl ?_
 refine aa rfl (g5 rfl rfl) ?_
 ((first | refine aa rfl ((d9 (c := true) (ku (x := (⟨0, 1⟩ : bi)) (y := (⟨0, 1⟩ : bi)) rfl rfl rfl) (decide_eq_true rfl))) ?_ | refine ah rfl rfl rfl rfl ((d9 (c := true) (ku (x := (⟨0, 1⟩ : bi)) (y := (⟨0, 1⟩ : bi)) rfl rfl rfl) (decide_eq_true rfl))) ?_ | refine dw rfl rfl rfl rfl ((d9 (c := true) (ku (x := (⟨0, 1⟩ : bi)) (y := (⟨0, 1⟩ : bi)) rfl rfl rfl) (decide_eq_true rfl))) ?_ | refine ul rfl rfl rfl ((d9 (c := true) (ku (x := (⟨0, 1⟩ : bi)) (y := (⟨0, 1⟩ : bi)) rfl rfl rfl) (decide_eq_true rfl))) ?_))
 refine aa rfl (br rfl rfl (by constructor)) ?_
 refine yM rfl rfl ?_
 refine yM rfl rfl ?_
 refine aa rfl (d9 (fa rfl rfl rfl) (decide_eq_true (by omega))) ?_
 refine aa rfl (br rfl rfl (by constructor)) ?_
 refine yM rfl rfl ?_
 refine yE rfl rfl rfl ?_
 refine aa rfl (g5 rfl rfl) ?_
 ((first | refine aa rfl ((d9 (c := true) (ku (x := (⟨0, 1⟩ : bi)) (y := (⟨0, 1⟩ : bi)) rfl rfl rfl) (decide_eq_true rfl))) ?_ | refine ah rfl rfl rfl rfl ((d9 (c := true) (ku (x := (⟨0, 1⟩ : bi)) (y := (⟨0, 1⟩ : bi)) rfl rfl rfl) (decide_eq_true rfl))) ?_ | refine dw rfl rfl rfl rfl ((d9 (c := true) (ku (x := (⟨0, 1⟩ : bi)) (y := (⟨0, 1⟩ : bi)) rfl rfl rfl) (decide_eq_true rfl))) ?_ | refine ul rfl rfl rfl ((d9 (c := true) (ku (x := (⟨0, 1⟩ : bi)) (y := (⟨0, 1⟩ : bi)) rfl rfl rfl) (decide_eq_true rfl))) ?_))
 refine aa rfl (br rfl rfl (by constructor)) ?_
 refine yM rfl rfl ?_
 refine yM rfl rfl ?_
 refine aa rfl (d9 (fa rfl rfl rfl) (decide_eq_true (by omega))) ?_
 refine aa rfl (br rfl rfl (by constructor)) ?_
 refine yM rfl rfl ?_
 refine yM rfl rfl ?_
 try dsimp only [St.put]
 refine ae rfl (dm rfl rfl rfl (by decide) (by decide) zR (by decide) ?_)
 try dsimp only [St.put]
 refine ae rfl (ay rfl rfl rfl (udo [1, 0] (by decide)) ?_)
 refine aa rfl (br rfl rfl (by constructor)) ?_
 refine yM rfl rfl ?_
 refine yM rfl rfl ?_
 refine aa rfl (d9 (fa rfl rfl rfl) (decide_eq_true (by omega))) ?_
 refine aa rfl (br rfl rfl (by constructor)) ?_
 refine yM rfl rfl ?_
 refine yM rfl rfl ?_
 try dsimp only [St.put]
 refine ae rfl (dm rfl rfl rfl (by decide) (by decide) zR (by decide) ?_)
 try dsimp only [St.put]
 refine ae rfl (ay rfl rfl rfl (udo [0] (by decide)) ?_)
 refine aa rfl (br rfl rfl (by constructor)) ?_
 refine yM rfl rfl ?_
 refine yM rfl rfl ?_
 refine aa rfl (bg rfl rfl (List.length_map _)) ?_
 ((first | refine aa rfl ((d9 (c := true) (fa rfl rfl rfl) (decide_eq_true rfl))) ?_ | refine ah rfl rfl rfl rfl ((d9 (c := true) (fa rfl rfl rfl) (decide_eq_true rfl))) ?_ | refine dw rfl rfl rfl rfl ((d9 (c := true) (fa rfl rfl rfl) (decide_eq_true rfl))) ?_ | refine ul rfl rfl rfl ((d9 (c := true) (fa rfl rfl rfl) (decide_eq_true rfl))) ?_))
 refine aa rfl (br rfl rfl (by constructor)) ?_
 refine yM rfl rfl ?_
 try dsimp only [St.put]
 refine ae rfl (dm rfl rfl rfl (by decide) (by decide) zR (by decide) ?_)
 try dsimp only [St.put]
 refine ae rfl ((dz rfl rfl rfl ((uor n)) zG (by dsimp only [St.put]; omega) ?_))
 refine aa rfl (br rfl rfl (by constructor)) ?_
 refine yA rfl rfl ?_
 refine yN ?_
 dsimp only [St.put]
 refine K10 _ ?_
 refine ar ?_
 refine az rfl (by constructor) zN zS ?_
 rfl
theorem ul4 (p : af) : Pure Tryz.prog 22 [val p] (.v (.bool (qz p))) := by
 refine cn Tryz.func22 rfl (fun m => .v) fun G nx => ?_
 simp only [Tryz.ntmps22, List.length_cons, List.length_nil, Nat.reduceAdd, Nat.reduceSub]
 refine bq fun hlt => ?_
 dsimp only at hlt
 refine yS fun _ K1 => ?_
 refine yR ?_
 try dsimp only [St.put]
 refine yB rfl rfl rfl ?_
 refine yA rfl rfl ?_
 refine yN ?_
 dsimp only [St.put]
 refine K1 _ ?_
 refine yS fun _ K2 => ?_
 refine yR ?_
 refine yE rfl rfl rfl ?_
 try dsimp only [St.put]
 refine ae rfl (ay rfl rfl rfl (ujk p) ?_)
 refine aa rfl (dd rfl rfl) ?_
 refine yM rfl rfl ?_
 refine ef (fun hs => ?_) (fun hs => ?_)
 ·have h1 : oe p = false := by simpa using hs
  refine yE rfl rfl rfl ?_
  try dsimp only [St.put]
  refine ae rfl (ay rfl rfl rfl (ujl p) ?_)
  refine aa rfl (fa rfl rfl rfl) ?_
  refine aa rfl (br rfl rfl (by constructor)) ?_
  refine yA rfl rfl ?_
  refine yN ?_
  dsimp only [St.put]
  refine K2 _ ?_
  refine ar ?_
  refine az rfl (by constructor) zN zS ?_
  exact vb (by simp [qz, h1])
 have h1 : oe p = true := by simpa using hs
 refine yK rfl ?_
 refine yK rfl ?_
 refine yK rfl ?_
 refine aa rfl (cb rfl rfl (by constructor)) ?_
 refine yA rfl rfl ?_
 refine yN ?_
 dsimp only [St.put]
 refine K2 _ ?_
 refine ar ?_
 refine az rfl (by constructor) zN zS ?_
 exact vb (by simp [qz, h1])
end Go.Proofs.YtbbdginipiljdaaGreatDoor
namespace Go.AB
open Go Go.RowKit
open Go.AB.Enc (cells)
open Go.PB (aw ai PlaceD bc bf bd bl am af ck bi)
end Go.AB
namespace Go.AB
open Go Go.RowKit
open Go.AB.Enc (cells)
open Go.PB (aw ai PlaceD bc bf bd bl am af ck bi cy c6)
theorem ukw {P : Program} {o : Oper} {st : St} {xt yt : TypeId} {x y : Operand} {m n r : Int} (hr : m % n = r) (ho : o.op = .binOp .rem xt x y yt) (hx : evC st x = .v (.int .i64 m)) (hy : evC st y = .v (.int .i64 n)) (hm : 0 ≤ m ∧ m ≤ 9223372036854775807) (hn : 0 < n) : NStep P o st (.v (.int .i64 r)) := hr ▸ n_rem ho hx hy hm hn
theorem ujs {α : Type} {l : List α} {a : Int} (ha : 0 ≤ a) (h : l.length ≠ 0) : ∃ (i : Nat) (x : α), a % (l.length : Int) = (i : Int) ∧ l[i]? = some x := by
 have h2 := Int.emod_nonneg a (show (l.length : Int) ≠ 0 by omega)
 have h3 := Int.emod_lt_of_pos a (show (0 : Int) < (l.length : Int) by omega)
 have hlt : (a % (l.length : Int)).toNat < l.length := by omega
 exact ⟨_, l[(a % (l.length : Int)).toNat], by omega, List.getElem?_eq_getElem hlt⟩
section
variable {p : af} {i : Nat} {x : am}
theorem uad (h : cj p = 0) (hx : p.pages[i]? = some x) : ed p (i : Int) = 0 := by
 have := (List.getElem?_eq_some_iff.1 hx).1
 unfold ed
 rw [decide_eq_true h, cond_true, inB_true.2 (by omega)]
 rfl
theorem ujt (hx : p.pages[i]? = some x) : l5 p (i : Int) = x := by
 unfold l5
 rw [Int.toNat_natCast, hx]; rfl
end
end Go.AB
namespace Go.Proofs.YtbbdginipiljdaaGreatDoor
set_option maxRecDepth 10000
open Go Go.RowKit Go.AB
open Go.AB.Enc (cells)
open Go.PB (aw ai PlaceD bc bf bd bl am af ck bi cy c6)
section
variable {p : af} {i : Nat} {x : am}
theorem ul5 (n : Nat) (h : cj p = 0) (hx : p.pages[i]? = some x) : er n em Tryz.prog 64 [val p, .v (.int .i64 (i : Int))] (.tup [lst (dg p.text x), .v (.int .i64 0)]) := by
 have := ucg n p (i : Int)
 rwa [uad h hx, show pm p (i : Int) = dg p.text x by unfold pm; rw [uad h hx, ujt hx]; rfl] at this
end
end Go.Proofs.YtbbdginipiljdaaGreatDoor
namespace Go.AB
open Go Go.RowKit
open Go.AB.Enc (cells)
open Go.PB (aw ai PlaceD bc bf bd bl am af ck bi cy c6)
theorem uds (g : Nat → Int) : ∀ n, (bp n g).sum = sm n g
 | 0 => rfl
 | n + 1 => by rw [sr, List.sum_append, uds g n]; simp [sm]
theorem ua0 {l : List Int} {k : Nat} {z : Int} (h : l[k]? = some z) : (l.take (k + 1)).sum = (l.take k).sum + z := by
 rw [List.take_add_one, h, Option.toList_some, List.sum_append]; simp
theorem ua1 {l : List Int} {m : Int} (h0 : 0 ≤ m) (h : ∀ z ∈ l, -m ≤ z ∧ z ≤ m) : ∀ k, k ≤ l.length → -(k * m) ≤ (l.take k).sum ∧ (l.take k).sum ≤ k * m
 | 0, _ => by simp
 | k + 1, hk => by
  have ih := ua1 h0 h k (by omega)
  have e := List.getElem?_eq_getElem (show k < l.length by omega)
  have hz := h _ (List.mem_of_getElem? e)
  rw [ua0 e]
  have e2 : ((k + 1 : Nat) : Int) * m = (k : Int) * m + m := by rw [Int.natCast_add, Int.add_mul]; simp
  omega
theorem uaw {p : af} (h : eb p) (j : Nat) : 0 ≤ d7 p j ∧ d7 p j ≤ 600 := by
 refine ⟨xg p j, ?_⟩
 have hq := lg h.text
 unfold d7 ms
 cases p.pages[j]? with
 | none => show (0 : Int) ≤ 600; omega
 | some x => have := rt p.text x; show ((dg p.text x).length : Int) ≤ 600; omega
theorem uhm {n : Nat} {g : Nat → Int} {z : Int} (h : z ∈ bp n g) : ∃ i, i < n ∧ z = g i := by
 unfold bp at h
 obtain ⟨i, h1, h2⟩ := List.mem_map.1 h
 exact ⟨i, List.mem_range.1 h1, h2.symm⟩
theorem zh {n i : Nat} {g : Nat → Int} (h : i < n) : (c5 (bp n g))[i * 1]? = some (.v (.int .i64 (g i))) := ud9 (by rw [Nat.mul_one]; exact ja g h)
end Go.AB
namespace Go.Proofs.YtbbdginipiljdaaGreatDoor
set_option maxRecDepth 10000
open Go Go.RowKit Go.AB
open Go.AB.Enc (cells)
open Go.PB (aw ai PlaceD bc bf bd bl am af ck bi cy c6)
theorem ul2 (l : List Int) (hl : l.length ≤ 100) (hb : ∀ z ∈ l, -1000000000 ≤ z ∧ z ≤ 1000000000) : Pure Tryz.prog 30 [lst l] (.v (.int .i64 l.sum)) := by
 refine cn Tryz.func30 rfl (fun m => .v) fun G nx => ?_
 simp only [Tryz.ntmps30, List.length_cons, List.length_nil, Nat.reduceAdd, Nat.reduceSub]
 refine bq fun hlt => ?_
 dsimp only at hlt
 refine yS fun _ K1 => ?_
 refine yR ?_
 refine yA rfl rfl ?_
 refine yN ?_
 dsimp only [St.put]
 refine K1 _ ?_
 refine yS fun _ K2 => ?_
 refine yR ?_
 refine yA rfl rfl ?_
 refine yN ?_
 dsimp only [St.put]
 refine K2 _ ?_
 refine yS fun _ K3 => ?_
 refine yS fun _ K4 => ?_
 refine yR ?_
 refine yM rfl rfl ?_
 refine aa rfl (bg rfl rfl (List.length_map _)) ?_
 refine yM rfl rfl ?_
 refine yN ?_
 dsimp only [St.put]
 refine K4 _ ?_
 refine ba ?_
 refine cc 9 ?_
 refine zQ ?_
 refine cr (G) zX ?_
 dsimp only
 refine cv (X := Nat) (fun k => k ≤ l.length) (fun k => l.length - k) (fun k => [(3, .v (.int .i64 (l.take k).sum)), (5, .any), (8, .v (.int .i64 (k : Int)))]) (fun k G' => G') 0 rfl ?_ ?_ (fun _ _ h => h) ?_ ?_ ?_
 ·exact Nat.zero_le _
 ·exact zF
 ·rintro k hI
  exact zL
 ·exact fun _ _ _ _ h => .inl h
 rintro k hI
 dsimp only at hI ⊢
 refine yS fun _ K5 => ?_
 refine yR ?_
 refine aa rfl (ce rfl rfl rfl) ?_
 refine yN ?_
 dsimp only [St.put]
 refine K5 _ ?_
 refine yS fun _ K6 => ?_
 refine aq rfl (fun hc => ?_) (fun hc => ?_)
 ·replace hc := of_decide_eq_true hc
  obtain ⟨z, hz⟩ : ∃ z, l[k]? = some z := cw (by omega)
  have h1 := ua1 (m := 1000000000) (by omega) hb k (by omega)
  have h2 := hb z (fq hz)
  refine av ?_
  refine K6 _ ?_
  refine yS fun _ K7 => ?_
  refine ba ?_
  refine yS fun _ K8 => ?_
  refine yR ?_
  refine aa rfl (bk rfl rfl rfl rfl (bj (by assumption)) (Enc.len _)) ?_
  refine yL rfl rfl rfl ?_
  refine yA rfl rfl ?_
  refine yN ?_
  dsimp only [St.put]
  refine K8 _ ?_
  refine yR ?_
  refine yM rfl rfl ?_
  refine yM rfl rfl ?_
  refine aa rfl (bn rfl rfl rfl (by omega)) ?_
  refine yA rfl rfl ?_
  refine yN ?_
  dsimp only [St.put]
  refine K7 _ ?_
  refine yR ?_
  refine aa rfl (bn rfl rfl rfl (by omega)) ?_
  refine yM rfl rfl ?_
  refine yN ?_
  dsimp only [St.put]
  rw [← ua0 hz]
  exact ⟨k + 1, by omega, by omega, ⟨⟨rfl, rfl⟩, zF, zB, zN, zX⟩⟩
 replace hc := of_decide_eq_false hc
 refine co ?_
 refine K3 _ ?_
 refine yS fun _ K9 => ?_
 refine yR ?_
 refine yM rfl rfl ?_
 refine yA rfl rfl ?_
 refine yN ?_
 dsimp only [St.put]
 refine K9 _ ?_
 refine ar ?_
 refine az rfl (by constructor) zN zS ?_
 exact vi (by rw [ga (show l.length ≤ k by omega)])
theorem udp (n : Nat) (p : af) (h : cj p = 0) : er n em Tryz.prog 27 [val p] (.tup [lst (bp p.pages.length (d7 p)), .v (.bool true)]) := fun G nx hF hnx => by
 refine g9 (G) (nx) Tryz.func27 rfl (.tup (bz (bu _ _) (bz .v c4))) zN (fun hlt => zH) ?_
 simp only [Tryz.ntmps27, List.length_cons, List.length_nil, Nat.reduceAdd, Nat.reduceSub]
 refine bq fun hlt => ?_
 dsimp only at hlt
 have hnp := (lu h).1.np
 refine yS fun _ K1 => ?_
 refine yR ?_
 try dsimp only [St.put]
 refine yB rfl rfl rfl ?_
 refine yA rfl rfl ?_
 refine yA rfl rfl ?_
 refine yN ?_
 dsimp only [St.put]
 refine K1 _ ?_
 refine yS fun _ K2 => ?_
 refine yR ?_
 refine yA rfl rfl ?_
 refine yN ?_
 dsimp only [St.put]
 refine K2 _ ?_
 refine ng 4 3 1 rfl (by decide) ?_
 dsimp only [List.set_cons_zero, List.set_cons_succ]
 refine yS fun _ K3 => ?_
 refine yS fun _ K4 => ?_
 refine yR ?_
 refine yF rfl rfl rfl rfl ?_
 refine yL rfl rfl rfl ?_
 refine aa rfl (bg rfl rfl (List.length_map _)) ?_
 refine yM rfl rfl ?_
 refine yN ?_
 dsimp only [St.put]
 refine K4 _ ?_
 refine ba ?_
 refine cc 12 ?_
 refine zQ ?_
 refine cr ((ak G nx (.tip (bp 0 (d7 p)).length 3 1))) zX ?_
 dsimp only
 refine cv (X := Nat) (fun k => k ≤ p.pages.length) (fun k => p.pages.length - k) (fun k => [(4, .list ((bp k (d7 p)).map cells) (.tip nx)), (5, .any), (6, .any), (7, .any), (11, .v (.int .i64 (k : Int)))]) (fun k G' => (ak G nx (.tip (bp k (d7 p)).length 3 1))) 0 rfl ?_ ?_ ?_ ?_ ?_ ?_
 ·exact Nat.zero_le _
 ·exact zF
 ·exact zX
 ·rintro k hI
  exact zL
 ·rintro k hI
  exact zH
 rintro k hI
 dsimp only at hI ⊢
 refine yS fun _ K5 => ?_
 refine yR ?_
 refine aa rfl (ce rfl rfl rfl) ?_
 refine yN ?_
 dsimp only [St.put]
 refine K5 _ ?_
 refine yS fun _ K6 => ?_
 refine aq rfl (fun hc => ?_) (fun hc => ?_)
 ·replace hc := of_decide_eq_true hc
  obtain ⟨x, hx⟩ : ∃ x, p.pages[k]? = some x := cw (by omega)
  have e := sr k (d7 p)
  rw [show d7 p k = ((dg p.text x).length : Int) from pc hx _] at e
  have hll := gd k (d7 p)
  refine av ?_
  refine K6 _ ?_
  refine yS fun _ K7 => ?_
  refine ba ?_
  refine yS fun _ K8 => ?_
  refine yR ?_
  refine yM rfl rfl ?_
  refine yA rfl rfl ?_
  refine yN ?_
  dsimp only [St.put]
  refine K8 _ ?_
  refine yS fun _ K9 => ?_
  refine yR ?_
  refine yE rfl rfl rfl ?_
  refine yM rfl rfl ?_
  try dsimp only [St.put]
  refine ae rfl ((dz rfl rfl rfl ((ul5 n h hx)) zG (by dsimp only [St.put]; omega) ?_))
  refine yM rfl rfl ?_
  refine yX rfl rfl rfl rfl ?_
  refine yX rfl rfl rfl rfl ?_
  refine yA rfl rfl ?_
  refine yA rfl rfl ?_
  refine yN ?_
  dsimp only [St.put]
  refine K9 _ ?_
  refine yS fun _ K10 => ?_
  refine yS fun _ K11 => ?_
  refine yR ?_
  refine yM rfl rfl ?_
  refine aa rfl (d9 (c := false) (eh rfl rfl rfl) (n3 rfl)) ?_
  refine yN ?_
  dsimp only [St.put]
  refine K11 _ ?_
  refine aq rfl (fun h => by cases h) (fun _ => ?_)
  refine av ?_
  refine K10 _ ?_
  refine yR ?_
  refine yM rfl rfl ?_
  refine yM rfl rfl ?_
  refine aa rfl (bg rfl rfl (List.length_map _)) ?_
  try dsimp only [St.put]
  refine ae rfl (dm rfl rfl rfl (by decide) (by decide) zR (by decide) ?_)
  try dsimp only [St.put]
  refine ae rfl (jt ([((dg p.text x).length : Int)]) rfl rfl zG zE rfl rfl zA ?_ zA)
  refine yA rfl rfl ?_
  refine yN ?_
  dsimp only [St.put]
  refine K7 _ ?_
  refine yR ?_
  refine aa rfl (bn rfl rfl rfl (by omega)) ?_
  refine yM rfl rfl ?_
  refine yN ?_
  dsimp only [St.put]
  rw [← e]
  exact ⟨k + 1, by omega, by omega, ⟨⟨rfl, rfl⟩, zF, zB, zN, zX⟩⟩
 replace hc := of_decide_eq_false hc
 obtain rfl : k = p.pages.length := by omega
 refine co ?_
 refine K3 _ ?_
 refine yS fun _ K12 => ?_
 refine yR ?_
 refine yM rfl rfl ?_
 refine yA rfl rfl ?_
 refine yA rfl rfl ?_
 refine yN ?_
 dsimp only [St.put]
 refine K12 _ ?_
 refine ar ?_
 refine gu rfl (dx (by constructor)) (dx (by constructor)) zN zS ?_ ?_
 ·exact zW
 exact zW
theorem t7 (p : af) (h : eb p) (es : List Int) (hl : es.length ≤ 100) {b : Bool} (hb : i1 p es = b) : Pure Tryz.prog 28 [val p, lst es] (.v (.bool b)) := hb ▸ uji p es h (by omega)
theorem ul1 (n : Nat) (p : af) (h : et p (cj p) = 0) : er n em Tryz.prog 13 [val p] (.tup [val (⟨0, py p⟩ : bi), .v (.int .i64 0)]) := by
 have := yc n p
 rwa [h, show ox p = ⟨0, py p⟩ by unfold ox; rw [h]; rfl] at this
theorem ul0 (n : Nat) (p : af) (h : et p (cj p) = 0) : er n em Tryz.prog 15 [val p] (.tup [lst (bp p.pages.length (fj p)), .v (.int .i64 0)]) := by
 have := ya n p
 rwa [h, show nj p = bp p.pages.length (fj p) by unfold nj; rw [h]; rfl] at this
theorem ul3 (n : Nat) (p : af) (h : et p (cj p) = 0) {i : Nat} {x : am} (hx : p.pages[i]? = some x) : er n em Tryz.prog 11 [val p, .v (.int .i64 (i : Int))] (.tup [val (⟨0, (bh p).alone (ci p) (cp p) i⟩ : bi), .v (.int .i64 0)]) := by
 have hC := (rm h).1
 have hA : et p (ed p (i : Int)) = 0 := by
  rw [hC] at h
  rw [uad hC hx]
  exact h
 have := ucc n p (i : Int)
 rwa [hA, show n1 p (i : Int) = ⟨0, (bh p).alone (ci p) (cp p) i⟩ by unfold n1; rw [hA, Int.toNat_natCast]; rfl] at this
end Go.Proofs.YtbbdginipiljdaaGreatDoor
namespace Go.AB
open Go Go.RowKit
open Go.AB.Enc (cells)
open Go.PB (aw ai PlaceD bc bf bd bl am af ck bi cy c6)
section
/-- what is told, with what remains in the worst truth on the first pages -/
noncomputable def iq (p : af) (k j : Nat) : Int := d7 p j + bif decide (j < k) then fj p j else 0
theorem uam (p : af) : iq p 0 = d7 p := by funext j; simp [iq]
theorem ugn (p : af) (k : Nat) : (fun j => bif decide (j = k) then iq p k k + fj p k else iq p k j) = iq p (k + 1) := by
 funext j
 unfold iq
 by_cases e : j = k
 ·subst e
  rw [decide_eq_true rfl, cond_true, decide_eq_false (Nat.lt_irrefl j), decide_eq_true (Nat.lt_succ_self j)]
  simp
 rw [decide_eq_false e, cond_false]
 by_cases q : j < k
 ·rw [decide_eq_true q, decide_eq_true (show j < k + 1 by omega)]
 rw [decide_eq_false q, decide_eq_false (show ¬ j < k + 1 by omega)]
theorem ugo (p : af) : bp p.pages.length (iq p p.pages.length) = bp p.pages.length fun j => d7 p j + fj p j := uho fun i hi => by unfold iq; rw [decide_eq_true hi]; rfl
/-- what is told, with so much more on one page -/
noncomputable def i4 (p : af) (i : Nat) (v : Int) (j : Nat) : Int := d7 p j + ko i v j
theorem uki (p : af) (i : Nat) : i4 p i 0 = d7 p := by
 funext j
 unfold i4 ko
 cases decide (j = i) <;> simp
theorem vp (p : af) (i : Nat) (v : Int) : i4 p i v i = d7 p i + v := by unfold i4 ko; rw [decide_eq_true rfl]; rfl
theorem ucj (p : af) (i : Nat) (v w : Int) : (fun j => bif decide (j = i) then i4 p i v i + w else i4 p i v j) = i4 p i (v + w) := by
 funext j
 by_cases e : j = i
 ·subst e
  rw [decide_eq_true rfl, cond_true, vp, vp]
  omega
 unfold i4 ko
 rw [decide_eq_false e]; rfl
end
section
variable {p : af}
theorem umy (h : eb p) (ht : gx p = true) : sm p.pages.length (fj p) = py p ∧ i1 p (bp p.pages.length (iq p p.pages.length)) = true := by
 refine ⟨Net.worst_sum (mx h) (nl ht) fun j _ => qk h j, ?_⟩
 rw [ugo]
 exact (ux h (fj p)).2 (Net.worst_feas (mx h) (nl ht) fun j _ => qk h j)
theorem umx (h : eb p) (ht : gx p = true) {i : Nat} (hi : i < p.pages.length) : i1 p (bp p.pages.length (i4 p i ((bh p).alone (ci p) (cp p) i))) = true ∧ i1 p (bp p.pages.length (i4 p i ((bh p).alone (ci p) (cp p) i + 1))) = false ∧ fj p i ≤ (bh p).alone (ci p) (cp p) i ∧ (bh p).alone (ci p) (cp p) i ≤ py p ∧ 0 ≤ (bh p).alone (ci p) (cp p) i := by
 have hC : ∀ j, j < (bh p).np → 0 ≤ cp p j := fun j _ => qk h j
 have h0 := Net.alone_nn (mx h) (i := i) hi (nl ht) hC
 refine ⟨(ux h _).2 (Net.feas_one_of (mx h) hi (nl ht) hC h0 (Int.le_refl _)), ?_, Net.feas_alone (mx h) (Net.worst_feas (mx h) (nl ht) hC) hi, Net.alone_most (mx h) hi (nl ht) hC, h0⟩
 rw [← Bool.not_eq_true]
 intro hq
 have := Net.feas_one_le (mx h) (i := i) hi ((ux h _).1 hq)
 omega
theorem uao (h : eb p) (ht : gx p = true) {i : Nat} (hi : i < p.pages.length) : 0 ≤ fj p i ∧ fj p i ≤ 600 := by
 have h1 := ((Net.worst_feas (mx h) (nl ht) fun j _ => qk h j).page i hi)
 have h2 := zy h i
 exact ⟨h1.1, Int.le_trans h1.2 h2.2⟩
end
end Go.AB
namespace Go.Proofs.YtbbdginipiljdaaGreatDoor
set_option maxRecDepth 10000
open Go Go.RowKit Go.AB
open Go.AB.Enc (cells)
open Go.PB (aw ai PlaceD bc bf bd bl am af ck bi cy c6)
set_option maxHeartbeats 4000000 in
theorem umw (p : af) (a : Int) : er 0 em Tryz.prog 5 [val p, .v (.int .u8 a)] (.v (.bool true)) := fun G nx hF hnx => by
 refine g9 (G) (nx) Tryz.func5 rfl (.v) zN (fun hlt => zH) ?_
 simp only [Tryz.ntmps5, List.length_cons, List.length_nil, Nat.reduceAdd, Nat.reduceSub]
 refine bq fun hlt => ?_
 dsimp only at hlt
 refine ld 1 (fun hfa => ?_)
 replace hfa := ug7 hfa
 refine yS fun _ K1 => ?_
 refine yR ?_
 try dsimp only [St.put]
 refine yB rfl rfl rfl ?_
 refine yA rfl rfl ?_
 refine yN ?_
 dsimp only [St.put]
 refine K1 _ ?_
 refine yS fun _ K2 => ?_
 refine yR ?_
 try dsimp only [St.put]
 refine ae rfl ((dz rfl rfl rfl ((uok 0)) zG (by dsimp only [St.put]; omega) ?_))
 refine yA rfl rfl ?_
 refine yN ?_
 dsimp only [St.put]
 refine K2 _ ?_
 refine yS fun _ K3 => ?_
 refine yS fun _ K4 => ?_
 refine yR ?_
 refine yE rfl rfl rfl ?_
 try dsimp only [St.put]
 refine ae rfl (ay rfl rfl rfl (ul4 p) ?_)
 refine aa rfl (dd rfl rfl) ?_
 refine yM rfl rfl ?_
 refine ef (fun hs => ?_) (fun hs => ?_)
 ·skip
  refine yK rfl ?_
  refine yK rfl ?_
  refine aa rfl (br rfl rfl (by constructor)) ?_
  refine yN ?_
  dsimp only [St.put]
  refine K4 _ ?_
  refine aq rfl (fun _ => ?_) (fun h => by cases h)
  refine yS fun _ K5 => ?_
  refine yR ?_
  refine yM rfl rfl ?_
  refine yA rfl rfl ?_
  refine yN ?_
  dsimp only [St.put]
  refine K5 _ ?_
  refine ar ?_
  refine az rfl (by constructor) zN zS ?_
  rfl
 have hrd : qz p = true := by simpa using hs
 have hC := (readyP_true.1 hrd).2
 obtain ⟨hok, _⟩ := lu hC
 have hnp := hok.np
 have htl := gd p.pages.length (d7 p)
 have hwl := gd p.pages.length (fj p)
 have hL0 : et p (cj p) = bif gx p then 0 else 8 := by rw [hC, rk]
 refine yM rfl rfl ?_
 refine aa rfl (dd rfl rfl) ?_
 refine aa rfl (cb rfl rfl (by constructor)) ?_
 refine yN ?_
 dsimp only [St.put]
 refine K4 _ ?_
 refine aq rfl (fun h => by cases h) (fun _ => ?_)
 refine av ?_
 refine K3 _ ?_
 refine yS fun _ K6 => ?_
 by_cases hT : gx p = true
 ·have hL : et p (cj p) = 0 := by rw [hL0, hT]; rfl
  obtain ⟨hws, hwt⟩ := umy hok hT
  have htt : i1 p (bp p.pages.length (d7 p)) = true := by rw [uav hok, hT]
  refine yR ?_
  refine yE rfl rfl rfl ?_
  try dsimp only [St.put]
  refine ae rfl ((dz rfl rfl rfl ((ul1 0 p hL)) zG (by dsimp only [St.put]; omega) ?_))
  refine yM rfl rfl ?_
  refine yX rfl rfl rfl rfl ?_
  refine yX rfl rfl rfl rfl ?_
  try dsimp only [St.put]
  refine ae rfl (dt rfl ?_)
  try dsimp only [St.put]
  refine ae rfl (cx rfl rfl rfl zG rfl rfl (by rfl) ?_)
  refine yA rfl rfl ?_
  refine yN ?_
  dsimp only [St.put]
  refine K6 _ ?_
  refine fu (i := 6) rfl zG zC ?_
  dsimp only
  refine yS fun _ K7 => ?_
  refine yR ?_
  refine yE rfl rfl rfl ?_
  try dsimp only [St.put]
  refine ae rfl ((dz rfl rfl rfl ((ul0 0 p hL)) zG (by dsimp only [St.put]; omega) ?_))
  refine yM rfl rfl ?_
  refine yX rfl rfl rfl rfl ?_
  refine yX rfl rfl rfl rfl ?_
  refine yA rfl rfl ?_
  refine yA rfl rfl ?_
  refine yN ?_
  dsimp only [St.put]
  refine K7 _ ?_
  refine yS fun _ K8 => ?_
  refine yR ?_
  refine yE rfl rfl rfl ?_
  try dsimp only [St.put]
  refine ae rfl ((dz rfl rfl rfl ((udp 0 p hC)) zG (by dsimp only [St.put]; omega) ?_))
  refine yM rfl rfl ?_
  refine yX rfl rfl rfl rfl ?_
  refine yX rfl rfl rfl rfl ?_
  refine yA rfl rfl ?_
  refine yA rfl rfl ?_
  refine yN ?_
  dsimp only [St.put]
  refine K8 _ ?_
  refine yS fun _ K9 => ?_
  refine yS fun _ K10 => ?_
  refine yR ?_
  refine yM rfl rfl ?_
  refine aa rfl (dd rfl rfl) ?_
  refine yM rfl rfl ?_
  refine yM rfl rfl ?_
  refine yM rfl rfl ?_
  refine aa rfl (d9 (c := false) (eh rfl rfl rfl) (n3 rfl)) ?_
  refine aa rfl (cb rfl rfl (by constructor)) ?_
  refine yM rfl rfl ?_
  refine yM rfl rfl ?_
  refine aa rfl (d9 (c := false) (eh rfl rfl rfl) (n3 rfl)) ?_
  refine yM rfl rfl ?_
  refine yK rfl ?_
  refine yK rfl ?_
  refine aa rfl (cb rfl rfl (by constructor)) ?_
  refine aa rfl (cb rfl rfl (by constructor)) ?_
  refine yN ?_
  dsimp only [St.put]
  refine K10 _ ?_
  refine aq rfl (fun h => by cases h) (fun _ => ?_)
  refine av ?_
  refine K9 _ ?_
  refine yS fun _ K11 => ?_
  refine yS fun _ K12 => ?_
  refine yR ?_
  refine yM rfl rfl ?_
  refine aa rfl (d9 (c := false) (eh rfl rfl rfl) (n3 rfl)) ?_
  refine yN ?_
  dsimp only [St.put]
  refine K12 _ ?_
  refine aq rfl (fun h => by cases h) (fun _ => ?_)
  refine av ?_
  refine K11 _ ?_
  refine yS fun _ K13 => ?_
  refine yS fun _ K14 => ?_
  refine f9 [(0, none), (1, none), (2, none), (3, none), (4, none), (5, none), (6, none), (7, none), (8, none), (9, none), (10, none), (11, none), (12, none), (14, none), (15, none), (13, none), (16, none), (17, none), (18, none), (20, none), (19, none), (21, none), (22, none), (23, none)] (fun i => [19, 21].contains i) (fun i => [13, 19, 21].contains i) (fun i => [0, 2, 3, 4, 5, 6, 8, 9, 10, 11, 12, 14, 16, 17, 18, 20, 22, 23].contains i) [] (by kernel_rfl) (by kernel_rfl) ?_
  refine ah rfl rfl rfl rfl (ca rfl rfl rfl) ?_
  try dsimp only [St.put]
  refine ax rfl rfl rfl rfl (bv rfl rfl) ?_
  refine ah rfl rfl rfl rfl (d9 (c := false) (eh rfl rfl rfl) (n3 rfl)) ?_
  refine xM rfl rfl rfl rfl rfl ?_
  refine xM rfl rfl rfl rfl rfl ?_
  refine ah rfl rfl rfl rfl (bg rfl rfl (List.length_map _)) ?_
  refine ah rfl rfl rfl rfl (ca rfl rfl rfl) ?_
  try dsimp only [St.put]
  refine ax rfl rfl rfl rfl (bv rfl rfl) ?_
  refine ah rfl rfl rfl rfl (bg rfl rfl (List.length_map _)) ?_
  refine ah rfl rfl rfl rfl (d9 (c := false) (eh rfl rfl rfl) (n3 (by rw [hwl]))) ?_
  refine ah rfl rfl rfl rfl (cb rfl rfl (by constructor)) ?_
  refine xM rfl rfl rfl rfl rfl ?_
  refine xM rfl rfl rfl rfl rfl ?_
  refine ah rfl rfl rfl rfl (ca rfl rfl rfl) ?_
  try dsimp only [St.put]
  refine ax rfl rfl rfl rfl (bv rfl rfl) ?_
  refine ip ?_
  try dsimp only [St.put]
  refine i7 rfl rfl rfl (ay rfl rfl rfl (ul2 (bp p.pages.length (fj p)) (by omega) (fun z hz => by obtain ⟨i, hi, rfl⟩ := uhm hz; have := uao hok hT hi; omega)) ⟨zD, ?_⟩)
  refine dw rfl rfl rfl rfl (d9 (c := false) (eh rfl rfl rfl) (n3 (by rw [uds]; exact hws))) ?_
  refine dw rfl rfl rfl rfl (cb rfl rfl (by constructor)) ?_
  refine dw rfl rfl rfl rfl (gg rfl (by constructor)) ?_
  refine dw rfl rfl rfl rfl (gg rfl (by constructor)) ?_
  try dsimp only [St.put]
  refine gl rfl rfl rfl rfl (SStep.e' (D := fun _ => True) (d8 rfl rfl (Enc.len _)) ?_)
  try dsimp only [St.put]
  refine gl rfl rfl rfl rfl (ay rfl rfl rfl (t7 p hok _ (by omega) htt) ?_)
  refine dw rfl rfl rfl rfl (dd rfl rfl) ?_
  refine dw rfl rfl rfl rfl (cb rfl rfl (by constructor)) ?_
  refine io ?_
  dsimp only [St.put]
  refine K14 _ ?_
  refine aq rfl (fun h => by cases h) (fun _ => ?_)
  refine av ?_
  refine K13 _ ?_
  refine yS fun _ K15 => ?_
  refine cc 20 ?_
  refine zQ ?_
  refine cr G zX ?_
  dsimp only
  refine yR ?_
  try dsimp only [St.put]
  refine ae rfl (ue0 rfl (by decide) ?_)
  refine yM rfl rfl ?_
  try dsimp only [St.put]
  refine ae rfl (rx (xs := ([] : List Int)) (bp p.pages.length (d7 p)) rfl rfl zG rfl rfl rfl rfl zA zA (fun v1 => ?_))
  refine yA rfl rfl ?_
  refine yN ?_
  dsimp only [St.put]
  simp only [List.nil_append, htl]
  rw [show d7 p = iq p 0 from (uam p).symm]
  refine K15 _ ?_
  refine yS fun _ K16 => ?_
  refine yS fun _ K17 => ?_
  refine yR ?_
  refine yM rfl rfl ?_
  refine aa rfl (bg rfl rfl (List.length_map _)) ?_
  refine yM rfl rfl ?_
  refine yN ?_
  dsimp only [St.put]
  refine K17 _ ?_
  refine ba ?_
  refine cc 98 ?_
  refine zQ ?_
  refine cr ((ak G (nx + 1) (.arr v1 0 3 1 p.pages.length (c5 (bp p.pages.length (iq p 0)))))) zX ?_
  dsimp only
  refine cv (X := Nat) (fun k => k ≤ p.pages.length) (fun k => p.pages.length - k) (fun k => [(13, .any), (14, .any), (97, .v (.int .i64 (k : Int)))]) (fun k G' => (ak G (nx + 1) (.arr v1 k 3 1 p.pages.length (c5 (bp p.pages.length (iq p k)))))) 0 rfl ?_ ?_ ?_ ?_ ?_ ?_
  ·exact Nat.zero_le _
  ·exact zF
  ·exact zX
  ·rintro k hI
   exact zL
  ·rintro k hI
   exact zH
  rintro k hI
  dsimp only at hI ⊢
  refine yS fun _ K18 => ?_
  refine yR ?_
  refine aa rfl (ce rfl rfl rfl) ?_
  refine yN ?_
  dsimp only [St.put]
  refine K18 _ ?_
  refine yS fun _ K19 => ?_
  refine aq rfl (fun hc => ?_) (fun hc => ?_)
  ·replace hc := of_decide_eq_true hc
   have hkl : k < p.pages.length := by omega
   have hgw := ja (fj p) hkl
   have hwb := uao hok hT hkl
   have htb := uaw hok k
   have hwk : iq p k k = d7 p k := by unfold iq; rw [decide_eq_false (Nat.lt_irrefl k)]; simp
   refine av ?_
   refine K19 _ ?_
   refine yS fun _ K20 => ?_
   refine ba ?_
   refine yS fun _ K21 => ?_
   refine yR ?_
   refine yM rfl rfl ?_
   refine aa rfl (bk rfl rfl rfl rfl (bj (by assumption)) (Enc.len _)) ?_
   refine yL rfl rfl rfl ?_
   refine yA rfl rfl ?_
   refine yA rfl rfl ?_
   refine yN ?_
   dsimp only [St.put]
   refine K21 _ ?_
   refine yR ?_
   refine yM rfl rfl ?_
   refine yM rfl rfl ?_
   try dsimp only [St.put]
   refine aa rfl (my rfl rfl zG rfl rfl hkl) ?_
   try dsimp only [St.put]
   refine bw rfl (jo rfl rfl zG (by simp) (zh hkl)) ?_
   refine yM rfl rfl ?_
   refine aa rfl (bn rfl rfl rfl (by omega)) ?_
   try dsimp only [St.put]
   refine aa rfl (my rfl rfl zG rfl rfl hkl) ?_
   try dsimp only [St.put]
   refine ae rfl (ru (k := k) (j := 0) (z := iq p k k) (z' := iq p k k + fj p k) rfl rfl rfl zG rfl rfl (ja (iq p k) hkl) rfl (by decide) rfl ?_)
   refine yN ?_
   dsimp only [St.put]
   refine K20 _ ?_
   refine yR ?_
   refine aa rfl (bn rfl rfl rfl (by omega)) ?_
   refine yM rfl rfl ?_
   refine yN ?_
   dsimp only [St.put]
   rw [qv _ _ hkl, ugn]
   exact ⟨k + 1, by omega, by omega, ⟨⟨rfl, rfl⟩, zF, zB, zN, zX⟩⟩
  replace hc := of_decide_eq_false hc
  obtain rfl : k = p.pages.length := by omega
  refine co ?_
  refine K16 _ ?_
  refine yS fun _ K22 => ?_
  refine yS fun _ K23 => ?_
  refine yR ?_
  refine yE rfl rfl rfl ?_
  refine yM rfl rfl ?_
  try dsimp only [St.put]
  refine ae rfl (zo (as' := [val p, lst (bp p.pages.length (iq p p.pages.length))]) rfl rfl rfl (t7 p hok _ (by rw [gd]; omega) hwt) ⟨.low (ec _ _), .own _ zG rfl rfl (gd _ _).symm, trivial⟩ (zg _) ?_)
  refine aa rfl (dd rfl rfl) ?_
  refine yN ?_
  dsimp only [St.put]
  refine K23 _ ?_
  refine aq rfl (fun h => by cases h) (fun _ => ?_)
  refine av ?_
  refine K22 _ ?_
  refine yS fun _ K24 => ?_
  refine yS fun _ K25 => ?_
  refine yR ?_
  refine yF rfl rfl rfl rfl ?_
  refine yL rfl rfl rfl ?_
  refine aa rfl (bg rfl rfl (List.length_map _)) ?_
  refine aa rfl (fa rfl rfl rfl) ?_
  refine yN ?_
  dsimp only [St.put]
  refine K25 _ ?_
  refine aq rfl (fun hc => ?_) (fun hc => ?_)
  ·have hn0 : p.pages.length = 0 := by have := of_decide_eq_true hc; omega
   have ht0 : py p = 0 := by rw [← hws, hn0]; rfl
   refine yS fun _ K26 => ?_
   refine yR ?_
   refine yM rfl rfl ?_
   refine yM rfl rfl ?_
   refine yF rfl rfl rfl rfl ?_
   refine yL rfl rfl rfl ?_
   refine aa rfl (d9 (c := true) (fa rfl rfl rfl) (decide_eq_true ht0)) ?_
   refine aa rfl (br rfl rfl (by constructor)) ?_
   refine yA rfl rfl ?_
   refine yN ?_
   dsimp only [St.put]
   refine K26 _ ?_
   refine ar ?_
   refine az rfl (by constructor) zN zS ?_
   rfl
  have hne : p.pages.length ≠ 0 := by have := of_decide_eq_false hc; omega
  obtain ⟨i, x, hi, hx⟩ := ujs hfa.1 hne
  have hil := (List.getElem?_eq_some_iff.1 hx).1
  obtain ⟨o1, o2, o3, o4, o5⟩ := umx hok hT hil
  have hcb := zy hok i
  have hac := (Net.le_alone.1 (Int.le_refl ((bh p).alone (ci p) (cp p) i))).1
  have htb := uaw hok i
  have hgt := ja (d7 p) hil
  have hgw := ja (fj p) hil
  obtain ⟨AL, hAL⟩ : ∃ AL, (bh p).alone (ci p) (cp p) i = AL := ⟨_, rfl⟩
  have hRM := ul3 0 p hL hx
  rw [hAL] at o1 o2 o3 o4 o5 hac hRM
  have hw0 := gd p.pages.length (iq p 0)
  have hpt : (0 : Int) < (p.pages.length : Int) := by omega
  refine av ?_
  refine K24 _ ?_
  refine yS fun _ K27 => ?_
  refine yR ?_
  refine yM rfl rfl ?_
  refine aa rfl (uk4 rfl rfl rfl rfl (by omega)) ?_
  refine yF rfl rfl rfl rfl ?_
  refine yL rfl rfl rfl ?_
  refine aa rfl (bg rfl rfl (List.length_map _)) ?_
  refine aa rfl (ukw hi rfl rfl rfl (by omega) (by omega)) ?_
  refine yA rfl rfl ?_
  refine yN ?_
  dsimp only [St.put]
  refine K27 _ ?_
  refine yS fun _ K28 => ?_
  refine yR ?_
  refine yE rfl rfl rfl ?_
  refine yM rfl rfl ?_
  try dsimp only [St.put]
  refine ae rfl ((dz rfl rfl rfl (hRM) zG (by dsimp only [St.put]; omega) ?_))
  refine yM rfl rfl ?_
  refine yX rfl rfl rfl rfl ?_
  refine yX rfl rfl rfl rfl ?_
  try dsimp only [St.put]
  refine ae rfl (dt rfl ?_)
  try dsimp only [St.put]
  refine ae rfl (cx rfl rfl rfl zG rfl rfl (by rfl) ?_)
  refine yA rfl rfl ?_
  refine yN ?_
  dsimp only [St.put]
  refine K28 _ ?_
  refine fu (i := 16) rfl zG zC ?_
  dsimp only
  refine yS fun _ K29 => ?_
  refine cc 20 ?_
  refine zQ ?_
  refine cr G zX ?_
  dsimp only
  refine yR ?_
  try dsimp only [St.put]
  refine ae rfl (ue0 rfl (by decide) ?_)
  refine yM rfl rfl ?_
  try dsimp only [St.put]
  refine ae rfl (rx (xs := ([] : List Int)) (bp p.pages.length (iq p 0)) rfl rfl zG rfl rfl rfl rfl zA zA (fun v2 => ?_))
  refine yA rfl rfl ?_
  refine yN ?_
  dsimp only [St.put]
  simp only [List.nil_append, gd]
  rw [show iq p 0 = i4 p i 0 from (uam p).trans (uki p i).symm]
  refine K29 _ ?_
  refine yS fun _ K30 => ?_
  refine f9 [(0, none), (1, none), (2, none), (3, none), (4, none), (5, none), (6, none), (7, none), (8, none)] (fun i => [8].contains i) (fun i => [8].contains i) (fun i => [0, 1, 2, 4, 6, 7].contains i) [nx + 1 + 1 + 1] (by kernel_rfl) (by kernel_rfl) ?_
  refine xM rfl rfl rfl rfl rfl ?_
  refine xM rfl rfl rfl rfl rfl ?_
  try dsimp only [St.put]
  refine ah rfl rfl rfl rfl (my rfl rfl zG rfl rfl hil) ?_
  try dsimp only [St.put]
  refine ax rfl rfl rfl rfl (jo rfl rfl zG (by simp) (zh hil)) ?_
  refine ah rfl rfl rfl rfl (ca rfl rfl rfl) ?_
  try dsimp only [St.put]
  refine ax rfl rfl rfl rfl (bv rfl rfl) ?_
  refine ah rfl rfl rfl rfl (bn rfl rfl rfl (by rw [vp]; omega)) ?_
  try dsimp only [St.put]
  refine ah rfl rfl rfl rfl (my rfl rfl zG rfl rfl hil) ?_
  refine ip ?_
  try dsimp only [St.put]
  refine gl rfl rfl rfl rfl (ru (k := i) (j := 0) (z := i4 p i 0 i) (z' := i4 p i 0 i + AL) rfl rfl rfl zG rfl rfl (ja (i4 p i 0) hil) rfl (by decide) rfl ?_)
  refine io ?_
  dsimp only [St.put]
  rw [qv _ _ hil, ucj, Int.zero_add]
  refine K30 _ ?_
  refine yS fun _ K31 => ?_
  refine yR ?_
  refine yE rfl rfl rfl ?_
  refine yM rfl rfl ?_
  try dsimp only [St.put]
  refine ae rfl (zo (as' := [val p, lst (bp p.pages.length (i4 p i AL))]) rfl rfl rfl (t7 p hok _ (by rw [gd]; omega) o1) ⟨.low (ec _ _), .own _ zG rfl rfl (gd _ _).symm, trivial⟩ (zg _) ?_)
  refine yA rfl rfl ?_
  refine yN ?_
  dsimp only [St.put]
  refine K31 _ ?_
  refine yS fun _ K32 => ?_
  refine yR ?_
  refine yM rfl rfl ?_
  refine yM rfl rfl ?_
  try dsimp only [St.put]
  refine aa rfl (my rfl rfl zG rfl rfl hil) ?_
  try dsimp only [St.put]
  refine bw rfl (jo rfl rfl zG (by simp) (zh hil)) ?_
  refine aa rfl (bn rfl rfl rfl (by rw [vp]; omega)) ?_
  try dsimp only [St.put]
  refine aa rfl (my rfl rfl zG rfl rfl hil) ?_
  try dsimp only [St.put]
  refine ae rfl (ru (k := i) (j := 0) (z := i4 p i AL i) (z' := i4 p i AL i + 1) rfl rfl rfl zG rfl rfl (ja (i4 p i AL) hil) rfl (by decide) rfl ?_)
  refine yN ?_
  dsimp only [St.put]
  rw [qv _ _ hil, ucj]
  refine K32 _ ?_
  refine yS fun _ K33 => ?_
  refine qn [(0, none), (1, none), (2, none), (3, none), (4, none), (5, none), (6, none), (7, none), (8, none), (9, none), (10, none), (11, none), (12, none), (13, none), (14, none), (15, none)] (fun _ => false) (fun i => [0, 1, 2, 3, 4, 5, 6, 8, 9, 10, 11, 12, 13, 15].contains i) 20 (rl [16, 20]) (by kernel_rfl) (by kernel_rfl) ?_
  refine xM rfl rfl rfl rfl rfl ?_
  refine xM rfl rfl rfl rfl rfl ?_
  refine xM rfl rfl rfl rfl rfl ?_
  refine ah rfl rfl rfl rfl (d9 (c := true) (fa rfl rfl rfl) (decide_eq_true rfl)) ?_
  refine ah rfl rfl rfl rfl (br rfl rfl (by constructor)) ?_
  refine xM rfl rfl rfl rfl rfl ?_
  refine ah rfl rfl rfl rfl (ca rfl rfl rfl) ?_
  try dsimp only [St.put]
  refine ax rfl rfl rfl rfl (bv rfl rfl) ?_
  refine ah rfl rfl rfl rfl (d9 (c := true) (fa rfl rfl rfl) (decide_eq_true rfl)) ?_
  refine ah rfl rfl rfl rfl (br rfl rfl (by constructor)) ?_
  refine xM rfl rfl rfl rfl rfl ?_
  refine xM rfl rfl rfl rfl rfl ?_
  refine ah rfl rfl rfl rfl (br rfl rfl (by constructor)) ?_
  refine xM rfl rfl rfl rfl rfl ?_
  try dsimp only [St.put]
  refine ax rfl rfl rfl rfl (d8 rfl rfl (Enc.len _)) ?_
  refine xM rfl rfl rfl rfl rfl ?_
  refine cg ?_
  refine dq [16] (by kernel_rfl) (by simp) ?_
  refine dp ?_ ?_
  ·try dsimp only [St.put]
   refine ig rfl rfl rfl (zo (as' := [val p, lst (bp p.pages.length (i4 p i (AL + 1)))]) rfl rfl rfl (t7 p hok _ (by rw [gd]; omega) o2) ⟨.low (ec _ _), .own _ zG rfl rfl (gd _ _).symm, trivial⟩ (zg _) ?_)
   refine eg [(17, none), (18, none), (19, none), (20, none), (21, none), (22, none), (23, none), (24, none), (25, none), (26, none), (27, none), (28, none), (29, none), (30, none), (31, none), (32, none), (33, none), (34, none), (35, none)] (fun i => [17, 18, 19, 20, 21, 22, 24, 26, 27, 28, 29, 31, 33, 34, 35].contains i) 0 (rl [36]) (by kernel_rfl) ?_
   refine ah rfl rfl rfl rfl (dd rfl rfl) ?_
   refine ah rfl rfl rfl rfl (br rfl rfl (by constructor)) ?_
   refine xM rfl rfl rfl rfl rfl ?_
   refine xM rfl rfl rfl rfl rfl ?_
   refine xM rfl rfl rfl rfl rfl ?_
   try dsimp only [St.put]
   refine ah rfl rfl rfl rfl (bk rfl rfl rfl rfl (bj (by assumption)) (Enc.len _)) ?_
   try dsimp only [St.put]
   refine ax rfl rfl rfl rfl (bv rfl rfl) ?_
   refine ah rfl rfl rfl rfl (ca rfl rfl rfl) ?_
   try dsimp only [St.put]
   refine ax rfl rfl rfl rfl (bv rfl rfl) ?_
   refine ah rfl rfl rfl rfl (d9 (c := true) (qb rfl rfl rfl) (decide_eq_true o3)) ?_
   refine ah rfl rfl rfl rfl (br rfl rfl (by constructor)) ?_
   refine xM rfl rfl rfl rfl rfl ?_
   refine ah rfl rfl rfl rfl (ca rfl rfl rfl) ?_
   try dsimp only [St.put]
   refine ax rfl rfl rfl rfl (bv rfl rfl) ?_
   refine ah rfl rfl rfl rfl (ca rfl rfl rfl) ?_
   try dsimp only [St.put]
   refine ax rfl rfl rfl rfl (bv rfl rfl) ?_
   refine ah rfl rfl rfl rfl (d9 (c := true) (qb rfl rfl rfl) (decide_eq_true o4)) ?_
   refine ah rfl rfl rfl rfl (br rfl rfl (by constructor)) ?_
   refine ah rfl rfl rfl rfl (fb rfl (by constructor)) ?_
   refine cg ?_
   dsimp only [St.put]
   refine g8 (by kernel_rfl) ?_
   refine K33 _ ?_
   refine ar ?_
   refine az rfl (by constructor) zN zS ?_
   rfl
  exact dn
 have hT0 : gx p = false := by simpa using hT
 have hL : et p (cj p) = 8 := by rw [hL0, hT0]; rfl
 have htt : i1 p (bp p.pages.length (d7 p)) = false := by rw [uav hok, hT0]
 refine yR ?_
 refine yE rfl rfl rfl ?_
 try dsimp only [St.put]
 refine ae rfl ((dz rfl rfl rfl ((yc 0 p)) zG (by dsimp only [St.put]; omega) ?_))
 refine yM rfl rfl ?_
 refine yX rfl rfl rfl rfl ?_
 refine yX rfl rfl rfl rfl ?_
 try dsimp only [St.put]
 refine ae rfl (dt rfl ?_)
 try dsimp only [St.put]
 refine ae rfl (cx rfl rfl rfl zG rfl rfl (by rfl) ?_)
 refine yA rfl rfl ?_
 refine yN ?_
 dsimp only [St.put]
 refine K6 _ ?_
 refine fu (i := 6) rfl zG zC ?_
 dsimp only
 refine yS fun _ K34 => ?_
 refine yR ?_
 refine yE rfl rfl rfl ?_
 try dsimp only [St.put]
 refine ae rfl ((dz rfl rfl rfl ((ya 0 p)) zG (by dsimp only [St.put]; omega) ?_))
 refine yM rfl rfl ?_
 refine yX rfl rfl rfl rfl ?_
 refine yX rfl rfl rfl rfl ?_
 refine yA rfl rfl ?_
 refine yA rfl rfl ?_
 refine yN ?_
 dsimp only [St.put]
 refine K34 _ ?_
 refine yS fun _ K35 => ?_
 refine yR ?_
 refine yE rfl rfl rfl ?_
 try dsimp only [St.put]
 refine ae rfl ((dz rfl rfl rfl ((udp 0 p hC)) zG (by dsimp only [St.put]; omega) ?_))
 refine yM rfl rfl ?_
 refine yX rfl rfl rfl rfl ?_
 refine yX rfl rfl rfl rfl ?_
 refine yA rfl rfl ?_
 refine yA rfl rfl ?_
 refine yN ?_
 dsimp only [St.put]
 refine K35 _ ?_
 refine yS fun _ K36 => ?_
 refine yS fun _ K37 => ?_
 refine yR ?_
 refine yM rfl rfl ?_
 refine aa rfl (dd rfl rfl) ?_
 refine yM rfl rfl ?_
 refine yM rfl rfl ?_
 refine yM rfl rfl ?_
 refine aa rfl (d9 (c := false) (eh rfl rfl rfl) (n3 rfl)) ?_
 refine aa rfl (cb rfl rfl (by constructor)) ?_
 refine yM rfl rfl ?_
 refine yM rfl rfl ?_
 refine aa rfl (d9 (c := true) (eh rfl rfl rfl) (by rw [hL]; rfl)) ?_
 refine yM rfl rfl ?_
 refine yM rfl rfl ?_
 refine aa rfl (d9 (c := false) (eh rfl rfl rfl) (n3 hL)) ?_
 refine aa rfl (br rfl rfl (by constructor)) ?_
 refine aa rfl (cb rfl rfl (by constructor)) ?_
 refine yN ?_
 dsimp only [St.put]
 refine K37 _ ?_
 refine aq rfl (fun h => by cases h) (fun _ => ?_)
 refine av ?_
 refine K36 _ ?_
 refine yS fun _ K38 => ?_
 refine yS fun _ K39 => ?_
 refine yR ?_
 refine yM rfl rfl ?_
 refine aa rfl (d9 (c := true) (eh rfl rfl rfl) (by rw [hL]; rfl)) ?_
 refine yN ?_
 dsimp only [St.put]
 refine K39 _ ?_
 refine aq rfl (fun _ => ?_) (fun h => by cases h)
 refine yS fun _ K40 => ?_
 refine yR ?_
 refine yM rfl rfl ?_
 refine yM rfl rfl ?_
 refine yE rfl rfl rfl ?_
 refine yM rfl rfl ?_
 try dsimp only [St.put]
 refine ae rfl (ay rfl rfl rfl (t7 p hok _ (by omega) htt) ?_)
 refine aa rfl (dd rfl rfl) ?_
 refine aa rfl (br rfl rfl (by constructor)) ?_
 refine yA rfl rfl ?_
 refine yN ?_
 dsimp only [St.put]
 refine K40 _ ?_
 refine ar ?_
 refine az rfl (by constructor) zN zS ?_
 rfl
end Go.Proofs.YtbbdginipiljdaaGreatDoor
namespace Go.AB
open Go Go.RowKit Go.ChangeShapes Go.WideShapes
end Go.AB
namespace Go.Proofs.YtbbdginipiljdaaGreatDoor
set_option maxRecDepth 10000
open Go.ChangeShapes Go.WideShapes Go.ChangeAt Go.RowKit Go.AB
open Go.AB.Enc (cells)
open Go.PB (aw ai PlaceD bc bf bd)
instance : OpensE Tryz.prog 3 Int := .int (by kernel_rfl)
instance : OpensE Tryz.prog 9 ByteArray := .str (by kernel_rfl)
instance : OpensE Tryz.prog 130 (List ByteArray) := .slice (e := 9) (by kernel_rfl) (by decide)
instance : OpensE Tryz.prog 127 (List (List ByteArray)) := .slice (e := 130) (by kernel_rfl) (by decide)
instance : OpensE Tryz.prog 129 aw := .chap (tI := 3) (tL := 127) (by kernel_rfl)
instance : OpensE Tryz.prog 22 (List aw) := .slice (e := 129) (by kernel_rfl) (by decide)
theorem uhg : jf Tryz.prog 24 [(0, 22, 1)] 1 = true := by kernel_rfl
instance : OpensE Tryz.prog 24 (List aw) := .one (e := 22) uhg
theorem ujm : jf Tryz.prog 61 [(0, 3, 1), (1, 3, 1), (2, 3, 1)] 3 = true := by kernel_rfl
instance : OpensE Tryz.prog 61 PlaceD := .place (tI := 3) ujm
theorem unz : Tryz.prog.underlying 4 = some .bool := by kernel_rfl
theorem ownZ : ownKnob Tryz.prog.godebug = none := by kernel_rfl
end Go.Proofs.YtbbdginipiljdaaGreatDoor
namespace Go.AB
open Go Go.RowKit Go.ChangeShapes Go.WideShapes
open Go.AB.Enc (cells)
open Go.PB (aw ai PlaceD bc bf bd bl am af ck bi)
theorem OpensE.reader {P : Program} {t tI : TypeId} [oI : OpensE P tI Int] (h : jf P t [(0, tI, 1), (1, tI, 1)] 2 = true) : OpensE P t bl :=
 .struct (α := bl) h fun w cs hl hp => by
  obtain ⟨a, ha⟩ := hp (0, tI, 1) (by simp) Int inferInstance oI
  obtain ⟨b, hb⟩ := hp (1, tI, 1) (by simp) Int inferInstance oI
  match cs, hl with
  | [u, v], _ => exact ⟨⟨a, b⟩, Rs.cons (Rs.single_inv ha) hb⟩
theorem OpensE.page {P : Program} {t tI tL : TypeId} [oI : OpensE P tI Int] [oL : OpensE P tL (List PlaceD)] (h : jf P t [(0, tI, 1), (1, tI, 1), (2, tI, 1), (3, tI, 1), (4, tL, 1), (5, tL, 1)] 6 = true) : OpensE P t am :=
 .struct (α := am) h fun w cs hl hp => by
  obtain ⟨a, ha⟩ := hp (0, tI, 1) (by simp) Int inferInstance oI
  obtain ⟨b, hb⟩ := hp (1, tI, 1) (by simp) Int inferInstance oI
  obtain ⟨c, hc⟩ := hp (2, tI, 1) (by simp) Int inferInstance oI
  obtain ⟨d, hd⟩ := hp (3, tI, 1) (by simp) Int inferInstance oI
  obtain ⟨e, he⟩ := hp (4, tL, 1) (by simp) (List PlaceD) inferInstance oL
  obtain ⟨f, hf⟩ := hp (5, tL, 1) (by simp) (List PlaceD) inferInstance oL
  match cs, hl with
  | [u0, u1, u2, u3, u4, u5], _ => exact ⟨⟨a, b, c, d, e, f⟩, Rs.cons (Rs.single_inv ha) (Rs.cons (Rs.single_inv hb) (Rs.cons (Rs.single_inv hc) (Rs.cons (Rs.single_inv hd) (Rs.cons (Rs.single_inv he) hf))))⟩
theorem OpensE.proofs {P : Program} {t tT tR tP : TypeId} [oT : OpensE P tT (List aw)] [oR : OpensE P tR (List bl)] [oP : OpensE P tP (List am)] (h : jf P t [(0, tT, 1), (1, tR, 1), (2, tR, 1), (3, tP, 1)] 4 = true) : OpensE P t af :=
 .struct (α := af) h fun w cs hl hp => by
  obtain ⟨a, ha⟩ := hp (0, tT, 1) (by simp) (List aw) inferInstance oT
  obtain ⟨b, hb⟩ := hp (1, tR, 1) (by simp) (List bl) inferInstance oR
  obtain ⟨c, hc⟩ := hp (2, tR, 1) (by simp) (List bl) inferInstance oR
  obtain ⟨d, hd⟩ := hp (3, tP, 1) (by simp) (List am) inferInstance oP
  match cs, hl with
  | [u0, u1, u2, u3], _ => exact ⟨⟨a, b, c, d⟩, Rs.cons (Rs.single_inv ha) (Rs.cons (Rs.single_inv hb) (Rs.cons (Rs.single_inv hc) hd))⟩
end Go.AB
namespace Go.AB
open Go Go.RowKit Go.ChangeShapes Go.WideShapes
open Go.AB.Enc (cells)
open Go.PB (aw ai PlaceD bl am af ck bi)
def ud5 (P : Program) (t : TypeId) : Bool := match P.underlying t with | some (.func _ _ _) => true | _ => false
theorem zf {P : Program} {t : TypeId} (h : ud5 P t = true) : ∃ ps rs va, P.underlying t = some (.func ps rs va) := by
 unfold ud5 at h
 split at h
 ·rename_i ps rs va he; exact ⟨ps, rs, va, he⟩
 ·cases h
/-- Functions that lie in a variable's cells. -/
theorem um3 {W : World} {b : Nat} {cs : List C} (hne : cs ≠ []) (hone : ∀ c ∈ cs, c.one = true) (us : Nat → Value) (hc : ∀ j, j < cs.length → W.cell? ⟨b, j, none⟩ = some (us j)) (hr : ∀ j c, cs[j]? = some c → R (ii W) W c (us j)) : R (ii W) W (.elem cs) (.pointer (some ⟨b, 0, none⟩)) := by
 have hl : 0 < cs.length := List.length_pos_iff.2 hne
 refine .elem hne hone (.inr ⟨b, 0, rfl, ?_, fun j hj => by rw [Nat.zero_add]; exact hc j hj⟩) hr
 have := zx (hc (cs.length - 1) (by omega))
 show 0 + cs.length ≤ oo W b
 omega
theorem uly {P : Program} {f : FuncId} {cs : List C} {v gv : Value} {gc : C} (hp : er 0 (.fact gv gc) P f cs (.v v)) {w : World} {args : List Value} (hK : R (ii w) w gc gv) (hr : Rs (ii w) w cs args) :
  Calls P f args.toArray w fun e w' => e = .returned v ∧ Below w.heap.size w w' :=
 ulz (fun G nx hG => by
  intro E w' as' hrs hsg
  exact hp G nx hG (by obtain ⟨t, _⟩ := hsg.obj 0 _ hG; have := hsg.lt 0 _ t; rw [hsg.nx] at this; exact this) E w' as' hrs hsg) hK hr
/-- a cell of a function's type, as it reads -/
theorem rr {P : Program} {W : World} {t : TypeId} {ps rs : Array TypeId} {va : Bool} {v : Value} {b : UInt8} {r : List UInt8} {f0 : FuncId} (hu : P.underlying t = some (.func ps rs va)) (hv : IsFunc v) (hd : veil (funcToken P) t v = .held (b :: r))
  (hone : ((List.range P.funcs.size).filter fun f => (P.funcs[f]?).any (·.name.toUTF8.data.toList == b :: r)) = [f0]) : v = .func (.func f0) #[] #[] :=
 Go.func_of_trod (w := W) (base := 0) (sp := fun _ => true) (fuel := 1) (q := []) hu hone (by
  have := trod_func (enc := funcToken P) hu (W := W) (base := 0) (sp := fun _ => true) hv 0
  rw [hd] at this
  exact this)
end Go.AB
namespace Go.Proofs.YtbbdginipiljdaaGreatDoor
set_option maxRecDepth 10000
open Go.ChangeShapes Go.WideShapes Go.ChangeAt Go.RowKit Go.AB
open Go.AB.Enc (cells)
open Go.PB (aw ai PlaceD bl am af ck bi)
instance : OpensE Tryz.prog 67 bl := .reader (tI := 3) (by kernel_rfl)
instance : OpensE Tryz.prog 25 (List bl) := .slice (e := 67) (by kernel_rfl) (by decide)
instance : OpensE Tryz.prog 56 (List PlaceD) := .slice (e := 61) (by kernel_rfl) (by decide)
instance : OpensE Tryz.prog 58 am := .page (tI := 3) (tL := 56) (by kernel_rfl)
instance : OpensE Tryz.prog 26 (List am) := .slice (e := 58) (by kernel_rfl) (by decide)
theorem ub4 : jf Tryz.prog 28 [(0, 24, 1), (1, 25, 1), (2, 25, 1), (3, 26, 1)] 4 = true := by kernel_rfl
instance : OpensE Tryz.prog 28 af := .proofs (tT := 24) (tR := 25) (tP := 26) ub4
theorem u8OkL : ub Tryz.prog 5 .u8 = true := by kernel_rfl
theorem gSides : Tryz.prog.globalNamed "postil/proof.sides" = some 0 := by kernel_rfl
theorem tSides : (Tryz.prog.globals[0]?).map (·.type) = some 141 := by kernel_rfl
theorem ug6 : Tryz.prog.underlying 141 = some (.array 2 140) := by kernel_rfl
theorem unw : Tryz.prog.cellsOf 141 = 6 := by kernel_rfl
theorem ue6 : Tryz.prog.cellsOf 140 = 3 := by kernel_rfl
theorem ubk : jf Tryz.prog 140 [(0, 136, 1), (1, 137, 1), (2, 138, 1)] 3 = true := by kernel_rfl
theorem ueg : ∃ ps rs va, Tryz.prog.underlying 136 = some (.func ps rs va) := zf (by kernel_rfl)
theorem uei : ∃ ps rs va, Tryz.prog.underlying 137 = some (.func ps rs va) := zf (by kernel_rfl)
theorem ueh : ∃ ps rs va, Tryz.prog.underlying 138 = some (.func ps rs va) := zf (by kernel_rfl)
theorem ube {W : World} {m : Nat} {cs : List Value} {y : DataW (List UInt8) × List MemPlace} {d0 d1 d2 : DataW (List UInt8)} (hy : y.1 = .agg [d0, d1, d2])
  (h : DataW.trod (funcToken Tryz.prog) Tryz.prog W 0 (fun _ => true) true m 140 cs = some y) : ∃ v0 v1 v2, cs = [v0, v1, v2] ∧ (IsFunc v0 ∧ veil (funcToken Tryz.prog) 136 v0 = d0) ∧ (IsFunc v1 ∧ veil (funcToken Tryz.prog) 137 v1 = d1) ∧ (IsFunc v2 ∧ veil (funcToken Tryz.prog) 138 v2 = d2) := by
 obtain ⟨_, fs, he⟩ := u6 ubk
 obtain ⟨xs, m', _, e1, hl, hlen, hf⟩ := DataW.trod_struct he h
 rw [ue6] at hl
 have hfs : fs.toList.map (fun f => (f.offset, f.type, Tryz.prog.cellsOf f.type)) = [(0, 136, 1), (1, 137, 1), (2, 138, 1)] := by
  have := ubk
  unfold jf at this
  rw [he] at this
  simp only [Bool.and_eq_true, beq_iff_eq] at this
  exact this.1
 obtain ⟨l⟩ := fs
 match l, hfs with
 | [f0, f1, f2], hfs =>
  simp only [List.map_cons, List.map_nil, List.cons.injEq, Prod.mk.injEq, and_true] at hfs
  obtain ⟨⟨a1, a2, a3⟩, ⟨b1, b2, b3⟩, ⟨c1, c2, c3⟩⟩ := hfs
  have h0 := hf 0 f0 rfl
  have h1 := hf 1 f1 rfl
  have h2 := hf 2 f2 rfl
  match cs, hl with
  | [u0, u1, u2], _ =>
   match xs, hlen with
   | [x0, x1, x2], _ =>
    subst e1
    simp only [List.map_cons, List.map_nil, DataW.agg.injEq, List.cons.injEq, and_true] at hy
    rw [a3, a1, a2] at h0
    rw [b3, b1, b2] at h1
    rw [c3, c1, c2] at h2
    obtain ⟨ps, rs, va, hu⟩ := ueg
    obtain ⟨ps', rs', va', hu'⟩ := uei
    obtain ⟨ps2, rs2, va2, hu2⟩ := ueh
    obtain ⟨v0, q0, q1, q2⟩ := Go.RowKit.func_of_trod hu h0
    obtain ⟨v1, q3, q4, q5⟩ := Go.RowKit.func_of_trod hu' h1
    obtain ⟨v2, q6, q7, q8⟩ := Go.RowKit.func_of_trod hu2 h2
    have e0 : u0 = v0 := by simpa using q0
    have e1 : u1 = v1 := by simpa using q3
    have e2 : u2 = v2 := by simpa using q6
    subst e0; subst e1; subst e2
    have hx0 : x0 = (veil (funcToken Tryz.prog) 136 u0, []) := by simpa using q2
    have hx1 : x1 = (veil (funcToken Tryz.prog) 137 u1, []) := by simpa using q5
    have hx2 : x2 = (veil (funcToken Tryz.prog) 138 u2, []) := by simpa using q8
    subst hx0; subst hx1; subst hx2
    obtain ⟨k0, k1, k2⟩ := hy
    exact ⟨u0, u1, u2, rfl, ⟨q1, k0⟩, ⟨q4, k1⟩, ⟨q7, k2⟩⟩
 | [], hfs => exact absurd hfs (by simp)
 | [_], hfs => exact absurd hfs (by simp)
 | [_, _], hfs => exact absurd hfs (by simp)
 | _ :: _ :: _ :: _ :: _, hfs => exact absurd hfs (by simp)
theorem uh6 {W : World} (h : funcsAt Tryz.prog W "postil/proof.sides" (.agg [.agg [.iface "func" (.lit (.string [112, 111, 115, 116, 105, 108, 47, 112, 114, 111, 111, 102, 46, 115, 105, 100, 101, 115, 36, 49])), .iface "func" (.lit (.string [112, 111, 115, 116, 105, 108, 47, 112, 114, 111, 111, 102, 46, 115, 105, 100, 101, 115, 36, 50])), .iface "func" (.lit (.string [112, 111, 115, 116, 105, 108, 47, 112, 114, 111, 111, 102, 46, 115, 105, 100, 101, 115, 36, 51]))], .agg [.iface "func" (.lit (.string [112, 111, 115, 116, 105, 108, 47, 112, 114, 111, 111, 102, 46, 115, 105, 100, 101, 115, 36, 52])), .iface "func" (.lit (.string [112, 111, 115, 116, 105, 108, 47, 112, 114, 111, 111, 102, 46, 115, 105, 100, 101, 115, 36, 53])), .iface "func" (.lit (.string [112, 111, 115, 116, 105, 108, 47, 112, 114, 111, 111, 102, 46, 115, 105, 100, 101, 115, 36, 54]))]])) : R (ii W) W (.elem sidL) (.pointer (some ⟨0, 0, none⟩)) := by
 obtain ⟨g, t, cs, fuel, p, hg, ht, hv, hd⟩ := h
 obtain rfl := Option.some.inj (gSides.symm.trans hg)
 obtain rfl := Option.some.inj (tSides.symm.trans ht)
 obtain ⟨xs, m, _, e1, hl, hn, hel⟩ := DataW.trod_array ug6 hd
 rw [unw] at hl
 rw [ue6] at hel
 have hcell := fun i => World.var?_cell hg hv i
 obtain ⟨l⟩ := cs
 dsimp only at hl hel hcell
 match l, hl with
 | [u0, u1, u2, u3, u4, u5], _ =>
  match xs, hn with
  | [x0, x1], _ =>
   simp only [Prod.mk.injEq] at e1
   have e2 : (.agg [.agg [.held [112, 111, 115, 116, 105, 108, 47, 112, 114, 111, 111, 102, 46, 115, 105, 100, 101, 115, 36, 49], .held [112, 111, 115, 116, 105, 108, 47, 112, 114, 111, 111, 102, 46, 115, 105, 100, 101, 115, 36, 50], .held [112, 111, 115, 116, 105, 108, 47, 112, 114, 111, 111, 102, 46, 115, 105, 100, 101, 115, 36, 51]], .agg [.held [112, 111, 115, 116, 105, 108, 47, 112, 114, 111, 111, 102, 46, 115, 105, 100, 101, 115, 36, 52], .held [112, 111, 115, 116, 105, 108, 47, 112, 114, 111, 111, 102, 46, 115, 105, 100, 101, 115, 36, 53], .held [112, 111, 115, 116, 105, 108, 47, 112, 114, 111, 111, 102, 46, 115, 105, 100, 101, 115, 36, 54]]] : DataW (List UInt8)) = .agg [x0.1, x1.1] := e1.1
   simp only [DataW.agg.injEq, List.cons.injEq, and_true] at e2
   obtain ⟨a0, a1, a2, q0, ⟨a3, a4⟩, ⟨a5, a6⟩, ⟨a7, a8⟩⟩ := ube e2.1.symm (hel 0 (by omega))
   obtain ⟨b0, b1, b2, q1, ⟨b3, b4⟩, ⟨b5, b6⟩, ⟨b7, b8⟩⟩ := ube e2.2.symm (hel 1 (by omega))
   simp only [Nat.zero_mul, Nat.one_mul, List.drop_zero, List.drop_succ_cons, List.take_succ_cons, List.take_zero, List.cons.injEq, and_true] at q0 q1
   obtain ⟨rfl, rfl, rfl⟩ := q0
   obtain ⟨rfl, rfl, rfl⟩ := q1
   obtain ⟨ps, rs, va, hu⟩ := ueg
   obtain ⟨ps', rs', va', hu'⟩ := uei
   obtain ⟨ps2, rs2, va2, hu2⟩ := ueh
   obtain rfl := rr (W := W) (f0 := 157) hu a3 a4 (by kernel_rfl)
   obtain rfl := rr (W := W) (f0 := 158) hu' a5 a6 (by kernel_rfl)
   obtain rfl := rr (W := W) (f0 := 159) hu2 a7 a8 (by kernel_rfl)
   obtain rfl := rr (W := W) (f0 := 160) hu b3 b4 (by kernel_rfl)
   obtain rfl := rr (W := W) (f0 := 161) hu' b5 b6 (by kernel_rfl)
   obtain rfl := rr (W := W) (f0 := 162) hu2 b7 b8 (by kernel_rfl)
   let L : List Value := [.func (.func 157) #[] #[], .func (.func 158) #[] #[], .func (.func 159) #[] #[], .func (.func 160) #[] #[], .func (.func 161) #[] #[], .func (.func 162) #[] #[]]
   refine um3 (by simp [sidL, nt]) (by intro c hc; simp only [sidL, nt, List.cons_append, List.nil_append, List.mem_cons, List.not_mem_nil, or_false] at hc; rcases hc with rfl | rfl | rfl | rfl | rfl | rfl <;> rfl) (fun j => L.getD j undef) (fun j hj => ?_) (fun j c hc => ?_)
   ·have := hcell j
    have hj' : j < 6 := hj
    rw [this]
    show (L.toArray)[j]? = _
    rw [List.getElem?_toArray, List.getD_eq_getElem?_getD, List.getElem?_eq_getElem (show j < L.length from hj')]
    rfl
   ·match j, hc with
    | 0, hc => cases hc; exact Rs.fn (vs := []) Rs.nil
    | 1, hc => cases hc; exact Rs.fn (vs := []) Rs.nil
    | 2, hc => cases hc; exact Rs.fn (vs := []) Rs.nil
    | 3, hc => cases hc; exact Rs.fn (vs := []) Rs.nil
    | 4, hc => cases hc; exact Rs.fn (vs := []) Rs.nil
    | 5, hc => cases hc; exact Rs.fn (vs := []) Rs.nil
abbrev t6 : List (String × DataW Unit) := [("postil/proof.sides", Rows.laid_postil_proof_sides)]
set_option maxRecDepth 100000 in
/-- The door's own heap meets the condition. -/
theorem und (os : Os) (args : Array Value) : laidMetH Tryz.prog t6 ((World.doorLaid Tryz.prog 600 os).forCall (fun _ _ => 0) ⟨#[], args, []⟩).memory :=
 laidMetH_of_parts3 (fuel := 8) (laidMet_of_run' 8 (by kernel_rfl) (by kernel_rfl)) (by kernel_rfl) (by kernel_rfl)
theorem uh5 {W : World} (h : laidMetH Tryz.prog t6 W) : R (ii W) W (.elem sidL) (.pointer (some ⟨0, 0, none⟩)) := uh6 (h.funcs (List.mem_cons_self ..))
end Go.Proofs.YtbbdginipiljdaaGreatDoor
namespace Go.AB
open Go Go.RowKit Go.ChangeShapes Go.WideShapes
section
variable {H : Type} {enc : TypeId × Value → H} {P : Program} {w : World} {base : Nat} {spare : Nat → Bool} {held : Bool}
end
end Go.AB
