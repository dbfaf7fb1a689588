/-
  What the walks through the program rest on: values, states, steps, calls (ReAsk, RjRests, QoRef, RkTotal, RgSets, QpRef, QqRef, RlChief, SaAlive, PkGuess, SbFacts, SdSums, SfKnown, SjWhy, SkChief, OpenL, OpenW, OpenS, Trod).
-/
import Derived.Test.YtbbdginipiljdaaGreatDoorPartD
import Derived.Test.YtbbdginipiljdaaGreatDoorPartC
import Derived.Test.YtbbdginipiljdaaGreatDoorRows
import Derived.LaidMore
import Derived.RowKitVeiled
import Derived.Carry
namespace Go.AB
open Go Go.RowKit
open Go.AB.Enc (cells)
open Go.PB (az ai PlaceD bg bj bi bv aw ah cx br da dh)
def pgC (p : ah) (n : Int) : C := bif decide (el p n = 0) then jq p else .v (.pointer none)
theorem uii (m : Nat) (p : ah) (n : Int) : C.low m (pgC p n) := by
 unfold pgC
 cases decide (el p n = 0)
 ·exact .v
 exact ub3 m p
theorem ubh {p : ah} {n : Int} (h : el p n ≠ 0) : pgC p n = .v (.pointer none) := by unfold pgC; rw [decide_eq_false h]; rfl
theorem r5 {p : ah} {n : Int} (h : el p n = 0) : pgC p n = .elem [lst p.text, lst p.firsts, lst p.seconds, lst p.pages, lst (p.pages.map fun x => (dl p.text x : Int)), lst (p.pages.map (cv p.text)), lst (p.pages.map (di p.text))] := by
 unfold pgC
 rw [decide_eq_true h, cond_true, ur (qb h).1]
theorem qr {α β : Type} {l : List α} {k : Nat} {x : α} (f : α → β) (h : l[k]? = some x) : (l.map f)[k]? = some (f x) := by rw [List.getElem?_map, h]; rfl
end Go.AB
namespace Go.Proofs.YtbbdginipiljdaaGreatDoor
set_option maxRecDepth 10000
open Go Go.RowKit Go.AB
open Go.AB.Enc (cells)
open Go.PB (az ai PlaceD bg bj bi bv aw ah cx br da dh)
theorem uha (m : Nat) (b : Bool) : ∀ c ∈ ne b, C.low m c := fun c hc => by
 simp only [List.mem_cons, List.not_mem_nil, or_false] at hc
 rcases hc with rfl | rfl | rfl <;> exact .fn (by simp)
theorem qn (n : Nat) (p : ah) (m : Int) : et n eo Tryz.prog 42 [val p, .v (.int .i64 m)] (.tup [pgC p m, .v (.int .i64 (el p m))]) := fun G nx hF hnx => by
 refine ii (G) (nx) Tryz.func42 rfl (.tup (cp (uii _ _ _) (cp .v dn))) zN (fun hlt => zH) ?_
 simp only [Tryz.ntmps42, List.length_cons, List.length_nil, Nat.reduceAdd, Nat.reduceSub]
 refine ca fun hlt => ?_
 dsimp only at hlt
 refine yS fun _ K1 => ?_
 refine yR ?_
 try dsimp only [St.put]
 refine yB rfl rfl rfl ?_
 refine yA rfl rfl ?_
 refine yA rfl rfl ?_
 refine yN ?_
 dsimp only [St.put]
 refine K1 _ ?_
 refine yS fun _ K2 => ?_
 refine yR ?_
 refine yE rfl rfl rfl ?_
 try dsimp only [St.put]
 refine af rfl (ec rfl rfl rfl (nk n p) zG (by dsimp only [St.put]; omega) ?_)
 refine yM rfl rfl ?_
 refine yX rfl rfl rfl rfl ?_
 refine yX rfl rfl rfl rfl ?_
 refine yA rfl rfl ?_
 refine yA rfl rfl ?_
 refine yN ?_
 dsimp only [St.put]
 refine K2 _ ?_
 refine yS fun _ K3 => ?_
 refine yS fun _ K4 => ?_
 refine yR ?_
 refine yM rfl rfl ?_
 refine aa rfl (fb rfl rfl rfl) ?_
 refine yN ?_
 dsimp only [St.put]
 refine K4 _ ?_
 refine aq rfl (fun hc => ?_) (fun hc => ?_)
 ·have h0 : cw p ≠ 0 := jg hc
  have hE : el p m = cw p := by simp [el, h0]
  refine yS fun _ K5 => ?_
  refine yR ?_
  refine yM rfl rfl ?_
  refine yA rfl rfl ?_
  refine yA rfl rfl ?_
  refine yN ?_
  dsimp only [St.put]
  refine K5 _ ?_
  refine ax ?_
  refine j6 rfl (by constructor) (by constructor) zN zS ?_ ?_
  ·rw [ubh (by rw [hE]; exact h0)]
  rw [hE]
 have h0 : cw p = 0 := ia hc
 have hnp := (ld h0).1.np
 refine ay ?_
 refine K3 _ ?_
 refine yS fun _ K6 => ?_
 refine yS fun _ K7 => ?_
 refine yR ?_
 refine yF rfl rfl rfl rfl ?_
 refine yL rfl rfl rfl ?_
 refine aa rfl (bn rfl rfl (List.length_map _)) ?_
 refine aa rfl (gh rfl rfl rfl (by omega)) ?_
 refine yM rfl rfl ?_
 try dsimp only [St.put]
 refine af rfl (b9 rfl rfl rfl (by decide) (by decide) zR (by decide) ?_)
 try dsimp only [St.put]
 refine af rfl (bc rfl rfl rfl (ms _ _ [_]) ?_)
 refine aa rfl (dw rfl rfl) ?_
 refine yN ?_
 dsimp only [St.put]
 refine K7 _ ?_
 refine aq rfl (fun hc => ?_) (fun hc => ?_)
 ·have h1 : inB m 0 ((p.pages.length : Int) - 1) = false := by rw [gj] at hc; simpa using hc
  have hE : el p m = 2 := by simp [el, h0, h1]
  refine yS fun _ K8 => ?_
  refine yR ?_
  refine yA rfl rfl ?_
  refine yA rfl rfl ?_
  refine yN ?_
  dsimp only [St.put]
  refine K8 _ ?_
  refine ax ?_
  refine j6 rfl (by constructor) (by constructor) zN zS ?_ ?_
  ·rw [ubh (by rw [hE]; decide)]
  rw [hE]
 have h1 : inB m 0 ((p.pages.length : Int) - 1) = true := by rw [gj] at hc; simpa using hc
 have hE : el p m = 0 := by simp [el, h0, h1]
 refine ay ?_
 refine K6 _ ?_
 refine yS fun _ K9 => ?_
 refine yR ?_
 refine yM rfl rfl ?_
 refine yA rfl rfl ?_
 refine yA rfl rfl ?_
 refine yN ?_
 dsimp only [St.put]
 refine K9 _ ?_
 refine ax ?_
 refine j6 rfl (by constructor) (by constructor) zN zS ?_ ?_
 ·unfold pgC; rw [decide_eq_true hE]; rfl
 rw [hE]
theorem ubm (n : Nat) (p : ah) (m : Int) : et n eo Tryz.prog 62 [val p, .v (.int .i64 m)] (.tup [.v (.int .i64 (na p m)), .v (.int .i64 (el p m))]) := fun G nx hF hnx => by
 refine ii (G) (nx) Tryz.func62 rfl (.tup (cp .v (cp .v dn))) zN (fun hlt => zH) ?_
 simp only [Tryz.ntmps62, List.length_cons, List.length_nil, Nat.reduceAdd, Nat.reduceSub]
 refine ca fun hlt => ?_
 dsimp only at hlt
 refine yS fun _ K1 => ?_
 refine yR ?_
 try dsimp only [St.put]
 refine yB rfl rfl rfl ?_
 refine yA rfl rfl ?_
 refine yA rfl rfl ?_
 refine yN ?_
 dsimp only [St.put]
 refine K1 _ ?_
 refine yS fun _ K2 => ?_
 refine yR ?_
 refine yE rfl rfl rfl ?_
 refine yM rfl rfl ?_
 try dsimp only [St.put]
 refine af rfl (ec rfl rfl rfl (qn n p m) zG (by dsimp only [St.put]; omega) ?_)
 refine yM rfl rfl ?_
 refine yX rfl rfl rfl rfl ?_
 refine yX rfl rfl rfl rfl ?_
 refine yA rfl rfl ?_
 refine yA rfl rfl ?_
 refine yN ?_
 dsimp only [St.put]
 refine K2 _ ?_
 refine yS fun _ K3 => ?_
 refine yS fun _ K4 => ?_
 refine yR ?_
 refine yM rfl rfl ?_
 refine aa rfl (fb rfl rfl rfl) ?_
 refine yN ?_
 dsimp only [St.put]
 refine K4 _ ?_
 refine aq rfl (fun hc => ?_) (fun hc => ?_)
 ·have h0 : el p m ≠ 0 := jg hc
  have hV : na p m = 0 := by unfold na; rw [lf h0]
  refine yS fun _ K5 => ?_
  refine yR ?_
  refine yM rfl rfl ?_
  refine yA rfl rfl ?_
  refine yA rfl rfl ?_
  refine yN ?_
  dsimp only [St.put]
  refine K5 _ ?_
  refine ax ?_
  refine j6 rfl (by constructor) (by constructor) zN zS ?_ ?_
  ·exact vi hV.symm
  rfl
 have h0 : el p m = 0 := ia hc
 obtain ⟨hc0, j, x, rfl, hx, hpo⟩ := qb h0
 have hw := qr (fun x => (dl p.text x : Int)) hx
 have hV : na p (j : Int) = (dl p.text x : Int) := by unfold na; rw [h0, hpo]; rfl
 rw [r5 h0]
 refine ay ?_
 refine K3 _ ?_
 refine yS fun _ K6 => ?_
 refine yR ?_
 refine yM rfl rfl ?_
 refine aa rfl (ky rfl rfl) ?_
 refine yF rfl rfl rfl rfl ?_
 refine yL rfl rfl rfl ?_
 refine yM rfl rfl ?_
 refine aa rfl (bw rfl rfl rfl rfl (bu (by assumption)) (Enc.len _)) ?_
 refine yL rfl rfl rfl ?_
 refine yA rfl rfl ?_
 refine yA rfl rfl ?_
 refine yN ?_
 dsimp only [St.put]
 refine K6 _ ?_
 refine ax ?_
 refine j6 rfl (by constructor) (by constructor) zN zS ?_ ?_
 ·exact vi hV.symm
 exact vi h0.symm
theorem ubr (n : Nat) (p : ah) (m : Int) : et n eo Tryz.prog 64 [val p, .v (.int .i64 m)] (.tup [lst (o7 p m), .v (.int .i64 (el p m))]) := fun G nx hF hnx => by
 refine ii (G) (nx) Tryz.func64 rfl (.tup (cp (bz _ _) (cp .v dn))) zN (fun hlt => zH) ?_
 simp only [Tryz.ntmps64, List.length_cons, List.length_nil, Nat.reduceAdd, Nat.reduceSub]
 refine ca fun hlt => ?_
 dsimp only at hlt
 refine yS fun _ K1 => ?_
 refine yR ?_
 try dsimp only [St.put]
 refine yB rfl rfl rfl ?_
 refine yA rfl rfl ?_
 refine yA rfl rfl ?_
 refine yN ?_
 dsimp only [St.put]
 refine K1 _ ?_
 refine yS fun _ K2 => ?_
 refine yR ?_
 refine yE rfl rfl rfl ?_
 refine yM rfl rfl ?_
 try dsimp only [St.put]
 refine af rfl (ec rfl rfl rfl (qn n p m) zG (by dsimp only [St.put]; omega) ?_)
 refine yM rfl rfl ?_
 refine yX rfl rfl rfl rfl ?_
 refine yX rfl rfl rfl rfl ?_
 refine yA rfl rfl ?_
 refine yA rfl rfl ?_
 refine yN ?_
 dsimp only [St.put]
 refine K2 _ ?_
 refine yS fun _ K3 => ?_
 refine yS fun _ K4 => ?_
 refine yR ?_
 refine yM rfl rfl ?_
 refine aa rfl (fb rfl rfl rfl) ?_
 refine yN ?_
 dsimp only [St.put]
 refine K4 _ ?_
 refine aq rfl (fun hc => ?_) (fun hc => ?_)
 ·have h0 : el p m ≠ 0 := jg hc
  have hV : o7 p m = [] := by unfold o7; rw [lf h0]
  refine yS fun _ K5 => ?_
  refine yR ?_
  refine yM rfl rfl ?_
  refine yA rfl rfl ?_
  refine yA rfl rfl ?_
  refine yN ?_
  dsimp only [St.put]
  refine K5 _ ?_
  refine ax ?_
  refine g8 rfl (ed (by constructor)) (ed (by constructor)) zN zS ?_ ?_
  ·rw [hV]; exact zW
  exact zW
 have h0 : el p m = 0 := ia hc
 obtain ⟨hc0, j, x, rfl, hx, hpo⟩ := qb h0
 have hw := qr (cv p.text) hx
 have hV : o7 p (j : Int) = cv p.text x := by unfold o7; rw [h0, hpo]; rfl
 rw [r5 h0]
 refine ay ?_
 refine K3 _ ?_
 refine yS fun _ K6 => ?_
 refine yR ?_
 refine yM rfl rfl ?_
 refine aa rfl (ky rfl rfl) ?_
 refine yF rfl rfl rfl rfl ?_
 refine yL rfl rfl rfl ?_
 refine yM rfl rfl ?_
 refine aa rfl (bw rfl rfl rfl rfl (bu (by assumption)) (Enc.len _)) ?_
 refine yL rfl rfl rfl ?_
 refine yA rfl rfl ?_
 refine yA rfl rfl ?_
 refine yN ?_
 dsimp only [St.put]
 refine K6 _ ?_
 refine ax ?_
 refine g8 rfl (ed (by constructor)) (ed (by constructor)) zN zS ?_ ?_
 ·rw [hV]; exact zW
 rw [h0]; exact zW
theorem ui0 (n : Nat) (p : ah) (m : Int) : et n eo Tryz.prog 65 [val p, .v (.int .i64 m)] (.tup [lst (q9 p m), .v (.int .i64 (el p m))]) := fun G nx hF hnx => by
 refine ii (G) (nx) Tryz.func65 rfl (.tup (cp (bz _ _) (cp .v dn))) zN (fun hlt => zH) ?_
 simp only [Tryz.ntmps65, List.length_cons, List.length_nil, Nat.reduceAdd, Nat.reduceSub]
 refine ca fun hlt => ?_
 dsimp only at hlt
 refine yS fun _ K1 => ?_
 refine yR ?_
 try dsimp only [St.put]
 refine yB rfl rfl rfl ?_
 refine yA rfl rfl ?_
 refine yA rfl rfl ?_
 refine yN ?_
 dsimp only [St.put]
 refine K1 _ ?_
 refine yS fun _ K2 => ?_
 refine yR ?_
 refine yE rfl rfl rfl ?_
 refine yM rfl rfl ?_
 try dsimp only [St.put]
 refine af rfl (ec rfl rfl rfl (qn n p m) zG (by dsimp only [St.put]; omega) ?_)
 refine yM rfl rfl ?_
 refine yX rfl rfl rfl rfl ?_
 refine yX rfl rfl rfl rfl ?_
 refine yA rfl rfl ?_
 refine yA rfl rfl ?_
 refine yN ?_
 dsimp only [St.put]
 refine K2 _ ?_
 refine yS fun _ K3 => ?_
 refine yS fun _ K4 => ?_
 refine yR ?_
 refine yM rfl rfl ?_
 refine aa rfl (fb rfl rfl rfl) ?_
 refine yN ?_
 dsimp only [St.put]
 refine K4 _ ?_
 refine aq rfl (fun hc => ?_) (fun hc => ?_)
 ·have h0 : el p m ≠ 0 := jg hc
  have hV : q9 p m = [] := by unfold q9; rw [lf h0]
  refine yS fun _ K5 => ?_
  refine yR ?_
  refine yM rfl rfl ?_
  refine yA rfl rfl ?_
  refine yA rfl rfl ?_
  refine yN ?_
  dsimp only [St.put]
  refine K5 _ ?_
  refine ax ?_
  refine g8 rfl (ed (by constructor)) (ed (by constructor)) zN zS ?_ ?_
  ·rw [hV]; exact zW
  exact zW
 have h0 : el p m = 0 := ia hc
 obtain ⟨hc0, j, x, rfl, hx, hpo⟩ := qb h0
 have hw := qr (di p.text) hx
 have hV : q9 p (j : Int) = di p.text x := by unfold q9; rw [h0, hpo]; rfl
 rw [r5 h0]
 refine ay ?_
 refine K3 _ ?_
 refine yS fun _ K6 => ?_
 refine yR ?_
 refine yM rfl rfl ?_
 refine aa rfl (ky rfl rfl) ?_
 refine yF rfl rfl rfl rfl ?_
 refine yL rfl rfl rfl ?_
 refine yM rfl rfl ?_
 refine aa rfl (bw rfl rfl rfl rfl (bu (by assumption)) (Enc.len _)) ?_
 refine yL rfl rfl rfl ?_
 refine yA rfl rfl ?_
 refine yA rfl rfl ?_
 refine yN ?_
 dsimp only [St.put]
 refine K6 _ ?_
 refine ax ?_
 refine g8 rfl (ed (by constructor)) (ed (by constructor)) zN zS ?_ ?_
 ·rw [hV]; exact zW
 rw [h0]; exact zW
theorem ubs (n : Nat) (p : ah) (b : Bool) (m : Int) : et n eo Tryz.prog 29 [val p, .v (.bool b), .v (.int .i64 m)] (.tup [.v (.int .i64 (mc p b m)), .v (.int .i64 (jw p b m))]) := fun G nx hF hnx => by
 refine ii (G) (nx) Tryz.func29 rfl (.tup (cp .v (cp .v dn))) zN (fun hlt => zH) ?_
 simp only [Tryz.ntmps29, List.length_cons, List.length_nil, Nat.reduceAdd, Nat.reduceSub]
 refine ca fun hlt => ?_
 dsimp only at hlt
 refine yS fun _ K1 => ?_
 refine yR ?_
 try dsimp only [St.put]
 refine yB rfl rfl rfl ?_
 refine yA rfl rfl ?_
 refine yA rfl rfl ?_
 refine yN ?_
 dsimp only [St.put]
 refine K1 _ ?_
 refine yS fun _ K2 => ?_
 refine yR ?_
 refine yE rfl rfl rfl ?_
 try dsimp only [St.put]
 refine af rfl (ec rfl rfl rfl (nk n p) zG (by dsimp only [St.put]; omega) ?_)
 refine yM rfl rfl ?_
 refine yX rfl rfl rfl rfl ?_
 refine yX rfl rfl rfl rfl ?_
 refine yA rfl rfl ?_
 refine yA rfl rfl ?_
 refine yN ?_
 dsimp only [St.put]
 refine K2 _ ?_
 refine yS fun _ K3 => ?_
 refine yS fun _ K4 => ?_
 refine yR ?_
 refine yM rfl rfl ?_
 refine aa rfl (fb rfl rfl rfl) ?_
 refine yN ?_
 dsimp only [St.put]
 refine K4 _ ?_
 refine aq rfl (fun hc => ?_) (fun hc => ?_)
 ·have h0 : cw p ≠ 0 := jg hc
  have hE : jw p b m = cw p := by simp [jw, h0]
  refine yS fun _ K5 => ?_
  refine yR ?_
  refine yM rfl rfl ?_
  refine yA rfl rfl ?_
  refine yA rfl rfl ?_
  refine yN ?_
  dsimp only [St.put]
  refine K5 _ ?_
  refine ax ?_
  refine j6 rfl (by constructor) (by constructor) zN zS ?_ ?_
  ·exact vi (by simp [mc, atE, hE, h0])
  exact vi hE.symm
 have h0 : cw p = 0 := ia hc
 obtain ⟨hok, _⟩ := ld h0
 have hn1 := hok.nf
 have hn2 := hok.ns
 have hsl : (du p b).length ≤ 3 := by
  cases b
  ·exact hn1
  exact hn2
 rw [ur h0]
 refine ay ?_
 refine K3 _ ?_
 refine yS fun _ K6 => ?_
 refine yR ?_
 try dsimp only [St.put]
 refine aa rfl (ucc (j := n) (k := 0) (m := 2) (sz := 3) rfl rfl zG rfl rfl (by decide) rfl) ?_
 try dsimp only [St.put]
 refine ck rfl (c := .agg (ne false)) (jx (cs := sidL) rfl rfl (show 3 ≤ 6 by decide)) ?_
 try dsimp only [St.put]
 refine af rfl (d7 rfl ?_)
 try dsimp only [St.put]
 refine af rfl (dj rfl rfl rfl zG rfl rfl (by rfl) ?_)
 refine yN ?_
 dsimp only [St.put]
 refine K6 _ ?_
 refine ct 13 ?_
 refine zQ ?_
 refine km (X := Nat) (fun wv => True) (fun wv => []) (fun wv G' => am G nx (.box wv (ne b))) rfl ?_ ?_ ?_ ?_
 ·rintro wv hI
  exact zL
 ·rintro wv hI
  exact (by (repeat' (refine k7 ?_ (by (try dsimp only); omega) ?_)); all_goals (first | exact k8 zS | (repeat' (first | exact trivial | refine ⟨?_, ?_⟩ | exact .v | exact .any | refine .elem ?_ | exact bz _ _ | exact fk _ _ | exact ei _ _ | exact fq _ (by (try dsimp only); omega) | exact .box (by (try dsimp only); omega) | exact fg | exact dn | exact uha _ _ | refine fw ?_ ?_ | exact .arr (by (try dsimp only); omega) | exact .own (by (try dsimp only); omega) | exact .map (by (try dsimp only); omega) | exact fa _ | refine cp ?_ ?_ | exact bz _ _))))
 ·refine yS fun _ K8 => ?_
  refine yR ?_
  refine yM rfl rfl ?_
  refine yN ?_
  dsimp only [St.put]
  refine K8 _ ?_
  refine aq rfl (fun hc => ?_) (fun hc => ?_)
  ·obtain rfl : b = true := hc
   have hyes : True := trivial
   refine yR ?_
   try dsimp only [St.put]
   refine aa rfl (ucc (j := n) (k := 1) (m := 2) (sz := 3) rfl rfl zG rfl rfl (by decide) rfl) ?_
   try dsimp only [St.put]
   refine ck rfl (e8 rfl rfl rfl) ?_
   try dsimp only [St.put]
   refine af rfl (dj rfl rfl rfl zG rfl rfl (by rfl) ?_)
   refine yN ?_
   dsimp only [St.put]
   first
   | exact ⟨1 + 1, hyes, ⟨⟨rfl, rfl⟩, zF, zB, zN, zX⟩⟩
   | exact ⟨1, hno, ⟨⟨rfl, rfl⟩, zF, zB, zN, zX⟩⟩
  obtain rfl : b = false := hc
  have hno : True := trivial
  refine ay ?_
  first
  | exact ⟨1 + 1, hyes, ⟨⟨rfl, rfl⟩, zF, zB, zN, zX⟩⟩
  | exact ⟨1, hno, ⟨⟨rfl, rfl⟩, zF, zB, zN, zX⟩⟩
 rintro wv hI
 dsimp only at hI ⊢
 refine yS fun _ K9 => ?_
 refine yS fun _ K10 => ?_
 refine yR ?_
 refine aa rfl (bk rfl rfl) ?_
 try dsimp only [St.put]
 refine ck rfl (fl rfl rfl zG trivial (by first | rfl | assumption)) ?_
 refine yE rfl rfl rfl ?_
 try dsimp only [St.put]
 refine af rfl (bc rfl rfl rfl (ot b p) ?_)
 refine aa rfl (bn rfl rfl (List.length_map _)) ?_
 refine aa rfl (gh rfl rfl rfl (by omega)) ?_
 refine yM rfl rfl ?_
 try dsimp only [St.put]
 refine af rfl (b9 rfl rfl rfl (by decide) (by decide) zR (by decide) ?_)
 try dsimp only [St.put]
 refine af rfl (bc rfl rfl rfl (ms _ _ [_]) ?_)
 refine aa rfl (dw rfl rfl) ?_
 refine yN ?_
 dsimp only [St.put]
 refine K10 _ ?_
 refine aq rfl (fun hc => ?_) (fun hc => ?_)
 ·have h1 : inB m 0 (((du p b).length : Int) - 1) = false := by rw [gj] at hc; simpa using hc
  have hE : jw p b m = 2 := by simp [jw, h0, h1]
  refine yS fun _ K11 => ?_
  refine yR ?_
  refine yA rfl rfl ?_
  refine yA rfl rfl ?_
  refine yN ?_
  dsimp only [St.put]
  refine K11 _ ?_
  refine ax ?_
  refine j6 rfl (by constructor) (by constructor) zN zS ?_ ?_
  ·exact vi (by simp [mc, atE, hE])
  exact vi hE.symm
 have h1 : inB m 0 (((du p b).length : Int) - 1) = true := by rw [gj] at hc; simpa using hc
 have hE : jw p b m = 0 := by simp [jw, h0, h1]
 obtain ⟨j, hj⟩ : ∃ j : Nat, m = (j : Int) := ⟨m.toNat, by have := inB_true.1 h1; omega⟩
 subst hj
 have hjl : j < (du p b).length := by have := inB_true.1 h1; omega
 have hV : mc p b (j : Int) = dd p b j := by simp [mc, atE, hE]
 refine ay ?_
 refine K9 _ ?_
 refine yS fun _ K12 => ?_
 refine yR ?_
 refine yM rfl rfl ?_
 try dsimp only [St.put]
 refine ck rfl (i1 rfl rfl zG trivial (by rfl)) ?_
 refine yM rfl rfl ?_
 try dsimp only [St.put]
 refine af rfl (bc rfl rfl rfl (ubj p b j hok hjl) ?_)
 refine yM rfl rfl ?_
 refine yX rfl rfl rfl rfl ?_
 refine yX rfl rfl rfl rfl ?_
 refine yA rfl rfl ?_
 refine yA rfl rfl ?_
 refine yN ?_
 dsimp only [St.put]
 refine K12 _ ?_
 refine yS fun _ K13 => ?_
 refine yR ?_
 refine yM rfl rfl ?_
 refine yA rfl rfl ?_
 refine yA rfl rfl ?_
 refine yN ?_
 dsimp only [St.put]
 refine K13 _ ?_
 refine ax ?_
 refine j6 rfl (by constructor) (by constructor) zN zS ?_ ?_
 ·exact vi hV.symm
 exact vi hE.symm
theorem uiy (n : Nat) (p : ah) (m : Int) : et n eo Tryz.prog 66 [val p, .v (.int .i64 m)] (.tup [val (nw p m), .v (.int .i64 (m5 p m))]) := fun G nx hF hnx => by
 refine ii (G) (nx) Tryz.func66 rfl (.tup (cp (ei _ _) (cp .v dn))) zN (fun hlt => zH) ?_
 simp only [Tryz.ntmps66, List.length_cons, List.length_nil, Nat.reduceAdd, Nat.reduceSub]
 refine ca fun hlt => ?_
 dsimp only at hlt
 refine yS fun _ K1 => ?_
 refine yR ?_
 try dsimp only [St.put]
 refine yB rfl rfl rfl ?_
 try dsimp only [St.put]
 refine af rfl (d7 rfl ?_)
 refine yA rfl rfl ?_
 refine yN ?_
 dsimp only [St.put]
 refine K1 _ ?_
 refine yS fun _ K2 => ?_
 refine yR ?_
 refine yE rfl rfl rfl ?_
 refine yM rfl rfl ?_
 try dsimp only [St.put]
 refine af rfl (ec rfl rfl rfl (qn n p m) zG (by dsimp only [St.put]; omega) ?_)
 refine yM rfl rfl ?_
 refine yX rfl rfl rfl rfl ?_
 refine yX rfl rfl rfl rfl ?_
 refine yA rfl rfl ?_
 refine yA rfl rfl ?_
 refine yN ?_
 dsimp only [St.put]
 refine K2 _ ?_
 refine yS fun _ K3 => ?_
 refine yS fun _ K4 => ?_
 refine yR ?_
 refine yM rfl rfl ?_
 refine aa rfl (fb rfl rfl rfl) ?_
 refine yN ?_
 dsimp only [St.put]
 refine K4 _ ?_
 refine aq rfl (fun hc => ?_) (fun hc => ?_)
 ·have h0 : el p m ≠ 0 := jg hc
  have hE : m5 p m = el p m := by unfold m5; rw [decide_eq_false h0]; rfl
  have hV : nw p m = ⟨0, 0⟩ := by unfold nw; rw [hE, lf h0]
  refine yS fun _ K5 => ?_
  refine yR ?_
  refine aa rfl (im rfl rfl) ?_
  refine yM rfl rfl ?_
  try dsimp only [St.put]
  refine af rfl (dj rfl rfl rfl zG rfl rfl (by rfl) ?_)
  refine yA rfl rfl ?_
  refine yN ?_
  dsimp only [St.put]
  refine K5 _ ?_
  refine ax ?_
  refine g8 rfl (jy rfl zG (by rfl) zC rfl) (ed (by constructor)) zN zS ?_ ?_
  ·rw [hV]; exact zW
  rw [hE]; exact zW
 have h0 : el p m = 0 := ia hc
 obtain ⟨hc0, j, x, rfl, hx, hpo⟩ := qb h0
 obtain ⟨hok, _⟩ := ld hc0
 have hp := pageB_true.1 (hok.page j x hx)
 have hal := m9 hok.text
 have hfl := o8 hp.found
 have hwl := o8 hp.well
 have hbl := uep p.text x
 have hw := qr (di p.text) hx
 rw [r5 h0]
 refine ay ?_
 refine K3 _ ?_
 refine yS fun _ K6 => ?_
 refine yR ?_
 refine yM rfl rfl ?_
 refine aa rfl (ky rfl rfl) ?_
 refine yF rfl rfl rfl rfl ?_
 refine yL rfl rfl rfl ?_
 refine yM rfl rfl ?_
 refine aa rfl (bw rfl rfl rfl rfl (bu (by assumption)) (Enc.len _)) ?_
 refine yL rfl rfl rfl ?_
 refine aa rfl (bn rfl rfl (List.length_map _)) ?_
 refine yA rfl rfl ?_
 refine yN ?_
 dsimp only [St.put]
 refine K6 _ ?_
 refine yS fun _ K7 => ?_
 refine yS fun _ K8 => ?_
 refine yR ?_
 refine yM rfl rfl ?_
 refine aa rfl (fo rfl rfl rfl) ?_
 refine yN ?_
 dsimp only [St.put]
 refine K8 _ ?_
 refine aq rfl (fun hc => ?_) (fun hc => ?_)
 ·have hk : (di p.text x).length = 0 := by have := of_decide_eq_true hc; omega
  have hE : m5 p (j : Int) = 6 := by unfold m5; rw [h0, hpo, decide_eq_true hk]; rfl
  have hV : nw p (j : Int) = ⟨0, 0⟩ := by unfold nw; rw [hE, lf (by decide)]
  refine yS fun _ K9 => ?_
  refine yR ?_
  refine aa rfl (im rfl rfl) ?_
  try dsimp only [St.put]
  refine af rfl (dj rfl rfl rfl zG rfl rfl (by rfl) ?_)
  refine yA rfl rfl ?_
  refine yN ?_
  dsimp only [St.put]
  refine K9 _ ?_
  refine ax ?_
  refine g8 rfl (jy rfl zG (by rfl) zC rfl) (ed (by constructor)) zN zS ?_ ?_
  ·rw [hV]; exact zW
  rw [hE]; exact zW
 have hk : ¬ (di p.text x).length = 0 := by have := of_decide_eq_false hc; omega
 obtain ⟨hE, hV⟩ := ulf h0 hpo rfl hk
 have hfw : x.found.length * x.well.length ≤ 600 * 600 := Nat.mul_le_mul (by omega) (by omega)
 have hfc := Int.natCast_mul x.found.length x.well.length
 have hjl := (List.getElem?_eq_some_iff.1 hx).1
 refine ay ?_
 refine K7 _ ?_
 refine yS fun _ K10 => ?_
 refine g5 [(0, none), (1, none), (2, none), (3, none), (4, none), (5, none), (6, none), (7, none), (8, none), (9, none), (10, none), (11, none), (12, none), (13, none), (14, none), (15, none)] (fun i => [].contains i) (fun i => [].contains i) (fun i => [0, 2, 3, 4, 6, 7, 9, 10, 11, 13, 14, 15].contains i) [] (by kernel_rfl) (by kernel_rfl) ?_
 refine ae rfl rfl rfl rfl (c4 rfl rfl rfl) ?_
 try dsimp only [St.put]
 refine bd rfl rfl rfl rfl (cm rfl rfl) ?_
 refine xM rfl rfl rfl rfl rfl ?_
 try dsimp only [St.put]
 refine ae rfl rfl rfl rfl (bw rfl rfl rfl rfl (bu (by assumption)) (Enc.len _)) ?_
 refine ae rfl rfl rfl rfl (c4 rfl rfl rfl) ?_
 try dsimp only [St.put]
 refine bd rfl rfl rfl rfl (cm rfl rfl) ?_
 refine ae rfl rfl rfl rfl (bn rfl rfl (List.length_map _)) ?_
 refine ae rfl rfl rfl rfl (c4 rfl rfl rfl) ?_
 try dsimp only [St.put]
 refine bd rfl rfl rfl rfl (cm rfl rfl) ?_
 refine xM rfl rfl rfl rfl rfl ?_
 try dsimp only [St.put]
 refine ae rfl rfl rfl rfl (bw rfl rfl rfl rfl (bu (by assumption)) (Enc.len _)) ?_
 refine ae rfl rfl rfl rfl (c4 rfl rfl rfl) ?_
 try dsimp only [St.put]
 refine bd rfl rfl rfl rfl (cm rfl rfl) ?_
 refine ae rfl rfl rfl rfl (bn rfl rfl (List.length_map _)) ?_
 refine ae rfl rfl rfl rfl (x4 rfl rfl rfl (by omega)) ?_
 refine ae rfl rfl rfl rfl (fp rfl (by constructor)) ?_
 refine ba ?_
 dsimp only [St.put]
 rw [show (x.found.length : Int) * (x.well.length : Int) = ((x.found.length * x.well.length : Nat) : Int) from hfc.symm]
 obtain ⟨M, hM⟩ : ∃ M, x.found.length * x.well.length = M := ⟨_, rfl⟩
 obtain ⟨K, hK⟩ : ∃ K, (di p.text x).length = K := ⟨_, rfl⟩
 have hV2 : nw p (j : Int) = ⟨(M : Int) / (K : Int), ((M : Int) + (K : Int) - 1) / (K : Int)⟩ := by
  rw [hV]
  unfold yl
  rw [hM, hK, Int.natCast_ediv, Int.natCast_ediv, show ((M + K - 1 : Nat) : Int) = (M : Int) + (K : Int) - 1 by omega]
 rw [hM] at hfw
 rw [hK] at hk hbl
 rw [hM, hK]
 refine K10 _ ?_
 refine yS fun _ K11 => ?_
 refine g5 [(0, none), (1, none), (2, none), (3, none), (4, none), (5, none), (6, none), (7, none), (8, none), (9, none), (10, none), (11, none)] (fun i => [10].contains i) (fun i => [10].contains i) (fun i => [0, 1, 2, 3, 4, 5, 6, 7, 8, 9, 11].contains i) [] (by kernel_rfl) (by kernel_rfl) ?_
 refine xM rfl rfl rfl rfl rfl ?_
 refine xM rfl rfl rfl rfl rfl ?_
 refine ae rfl rfl rfl rfl (xz rfl rfl rfl (by omega) (by omega)) ?_
 refine xM rfl rfl rfl rfl rfl ?_
 refine xM rfl rfl rfl rfl rfl ?_
 refine ae rfl rfl rfl rfl (bx rfl rfl rfl (by omega)) ?_
 refine ae rfl rfl rfl rfl (gh rfl rfl rfl (by omega)) ?_
 refine xM rfl rfl rfl rfl rfl ?_
 refine ae rfl rfl rfl rfl (xz rfl rfl rfl (by omega) (by omega)) ?_
 refine ae rfl rfl rfl rfl (im rfl rfl) ?_
 refine jl ?_
 try dsimp only [St.put]
 refine iv rfl rfl rfl rfl (dj rfl rfl rfl zG rfl rfl (by rfl) ?_)
 refine em rfl rfl rfl rfl (fp rfl (by constructor)) ?_
 refine jk ?_
 dsimp only [St.put]
 refine K11 _ ?_
 refine ax ?_
 refine g8 rfl (jy rfl zG (by rfl) zC rfl) (ed (by constructor)) zN zS ?_ ?_
 ·rw [hV2]; exact zW
 rw [hE]; exact zW
end Go.Proofs.YtbbdginipiljdaaGreatDoor
namespace Go.AB
open Go Go.RowKit
open Go.AB.Enc (cells)
open Go.PB (az ai PlaceD bg bj bi bv aw ah cx br da dh)
/-- who has read a page, of some sides -/
def ov (p : ah) (x : aw) : Nat → List Int
 | 0 => []
 | k + 1 => ov p x k ++ bif decide (0 ≤ eg (decide (k = 1)) x) then [(sdN p k : Int) + eg (decide (k = 1)) x] else []
theorem uh9 (p : ah) (x : aw) : ov p x 2 = dq p x := by
 show ([] ++ bif decide (0 ≤ x.fst) then [((0 : Nat) : Int) + x.fst] else []) ++ (bif decide (0 ≤ x.snd) then [(p.firsts.length : Int) + x.snd] else []) = dq p x
 rw [List.nil_append, show ((0 : Nat) : Int) + x.fst = x.fst by omega]
 rfl
theorem ua7 (p : ah) (x : aw) : ∀ k, (ov p x k).length ≤ k
 | 0 => Nat.le_refl _
 | k + 1 => by
  have := ua7 p x k
  simp only [ov, List.length_append]
  cases decide (0 ≤ eg (decide (k = 1)) x)
  ·rw [cond_false]; simp; omega
  rw [cond_true]; simp; omega
theorem uj5 {α β : Type} {l : List α} {j : Nat} {x : α} (f : α → β) (h : l[j]? = some x) : (l.take (j + 1)).map f = (l.take j).map f ++ [f x] := by rw [List.take_add_one, h, Option.toList_some, List.map_append]; rfl
theorem ukk {p : ah} : (!(bp (ci p) (c5 p)).any fun n => decide (n < 0)) = gm p := by
 rw [Bool.eq_iff_iff, Bool.not_eq_true', ← Bool.not_eq_true, List.any_eq_true]
 unfold gm bp
 rw [List.all_eq_true]
 constructor
 ·intro h i hi
  refine decide_eq_true ?_
  rcases Int.lt_or_le (c5 p i) 0 with q | q
  ·exact absurd ⟨_, List.mem_map.2 ⟨i, hi, rfl⟩, decide_eq_true q⟩ h
  exact q
 rintro h ⟨z, hz, hl⟩
 obtain ⟨i, hi, rfl⟩ := List.mem_map.1 hz
 have := of_decide_eq_true (h i hi)
 have := of_decide_eq_true hl
 omega
end Go.AB
namespace Go.Proofs.YtbbdginipiljdaaGreatDoor
set_option maxRecDepth 10000
open Go Go.RowKit Go.AB
open Go.AB.Enc (cells)
open Go.PB (az ai PlaceD bg bj bi bv aw ah cx br da dh)
theorem uhw (z : Int) : Pure Tryz.prog 98 [.v (.int .i64 z)] (.v (.bool (decide (z < 0)))) := by
 refine c6 Tryz.func98 rfl (fun m => .v) fun G nx => ?_
 simp only [Tryz.ntmps98, List.length_cons, List.length_nil, Nat.reduceAdd, Nat.reduceSub]
 refine ca fun hlt => ?_
 dsimp only at hlt
 refine yS fun _ K1 => ?_
 refine yR ?_
 refine yA rfl rfl ?_
 refine yN ?_
 dsimp only [St.put]
 refine K1 _ ?_
 refine yS fun _ K2 => ?_
 refine yR ?_
 refine yM rfl rfl ?_
 refine aa rfl (cn rfl rfl rfl) ?_
 refine yA rfl rfl ?_
 refine yN ?_
 dsimp only [St.put]
 refine K2 _ ?_
 refine ax ?_
 refine bh rfl (by constructor) zN zS ?_
 rfl
theorem ukh (p : ah) : Pure Tryz.prog 97 [.elem (ka p)] (.fn (.func 110) [.elem [.elem (ka p)]]) := by
 refine c6 Tryz.func97 rfl (fun m => (.fn (cp (.elem (cp (.elem (cp (bz _ _) (cp (bz _ _) (cp (bz _ _) (cp (bz _ _) (cp (bz _ _) (cp (bz _ _) (cp (bz _ _) dn)))))))) dn)) dn))) fun G nx => ?_
 simp only [Tryz.ntmps97, List.length_cons, List.length_nil, Nat.reduceAdd, Nat.reduceSub]
 refine ca fun hlt => ?_
 dsimp only at hlt
 refine yS fun _ K1 => ?_
 refine yR ?_
 try dsimp only [St.put]
 refine yB rfl rfl rfl ?_
 refine yA rfl rfl ?_
 refine yN ?_
 dsimp only [St.put]
 refine K1 _ ?_
 refine yS fun _ K2 => ?_
 refine yR ?_
 refine aa rfl (pt rfl rfl) ?_
 refine yA rfl rfl ?_
 refine yN ?_
 dsimp only [St.put]
 refine K2 _ ?_
 refine ax ?_
 refine bh rfl (by constructor) zN zS ?_
 rfl
set_option maxHeartbeats 2000000 in
theorem uit (n : Nat) (p : ah) (h : dv p) : et n eo Tryz.prog 79 [.elem (ka p)] (.tup [val (ge p (c5 p) (dg p)), .v (.bool (gm p))]) := fun G nx hF hnx => by
 refine ii (G) (nx) Tryz.func79 rfl (.tup (cp (ei _ _) (cp .v dn))) zN (fun hlt => zH) ?_
 simp only [Tryz.ntmps79, List.length_cons, List.length_nil, Nat.reduceAdd, Nat.reduceSub]
 refine ca fun hlt => ?_
 dsimp only at hlt
 have hn1 := h.nf
 have hn2 := h.ns
 have hnp := h.np
 have hnr : ci p = p.firsts.length + p.seconds.length := rfl
 have hal := m9 h.text
 refine yS fun _ K1 => ?_
 refine yR ?_
 try dsimp only [St.put]
 refine af rfl (d7 rfl ?_)
 refine yA rfl rfl ?_
 refine yN ?_
 dsimp only [St.put]
 refine K1 _ ?_
 refine yS fun _ K2 => ?_
 refine yR ?_
 try dsimp only [St.put]
 refine af rfl (d7 rfl ?_)
 refine yN ?_
 dsimp only [St.put]
 refine K2 _ ?_
 refine n4 (nx + 1) 0 _ _ 3 1 zG rfl (by decide) ?_
 refine n4 (nx + 1) 1 _ _ 3 1 zG rfl (by decide) ?_
 refine n4 (nx + 1) 2 _ _ 40 1 zG rfl (by decide) ?_
 dsimp only [List.set_cons_zero, List.set_cons_succ]
 refine yS fun _ K3 => ?_
 refine yS fun _ K4 => ?_
 refine yR ?_
 refine yM rfl rfl ?_
 try dsimp only [St.put]
 refine af rfl (bc rfl rfl rfl (ukh p) ?_)
 refine yN ?_
 dsimp only [St.put]
 refine K4 _ ?_
 refine bf ?_
 refine ct 15 ?_
 refine zQ ?_
 refine c9 ((am (am (am (am (am G nx (.box 0 [.list [] .nil, .list [] .nil, .list [] .nil])) (nx + 1) (.box (0) [.list ((bp 0 (c5 p)).map cells) (.tip (nx + 1 + 1)), .list ((bp 0 (dg p)).map cells) (.tip (nx + 1 + 1 + 1)), .list (((p.pages.take 0).map (dq p)).map cells) (.tip (nx + 1 + 1 + 1 + 1))])) (nx + 1 + 1) (.tip (bp 0 (c5 p)).length 3 1)) (nx + 1 + 1 + 1) (.tip (bp 0 (dg p)).length 3 1)) (nx + 1 + 1 + 1 + 1) (.tip ((p.pages.take 0).map (dq p)).length 40 1))) zX ?_
 dsimp only
 refine uew [15] (fun k => (am (am (am (am (am G nx (.box 0 [.list [] .nil, .list [] .nil, .list [] .nil])) (nx + 1) (.box (k) [.list ((bp k (c5 p)).map cells) (.tip (nx + 1 + 1)), .list ((bp 0 (dg p)).map cells) (.tip (nx + 1 + 1 + 1)), .list (((p.pages.take 0).map (dq p)).map cells) (.tip (nx + 1 + 1 + 1 + 1))])) (nx + 1 + 1) (.tip (bp k (c5 p)).length 3 1)) (nx + 1 + 1 + 1) (.tip (bp 0 (dg p)).length 3 1)) (nx + 1 + 1 + 1 + 1) (.tip ((p.pages.take 0).map (dq p)).length 40 1))) (fun k => [(15, .v (.int .i64 (c5 p k)))]) (uki n p h) (fun k => zG) (by (try dsimp only); omega) rfl rfl (fun _ => rfl) ?_ ?_ ?_ (fun lr k hrk => ?_) ?_
 ·intro k
  rfl
 ·exact zX
 ·intro k
  exact zH
 ·have hll := gt k (c5 p)
  refine yR ?_
  refine yA rfl rfl ?_
  refine yN ?_
  dsimp only [St.put]
  show AW _ _ _ _ _
  refine bf ?_
  refine yR ?_
  refine aa rfl (bk rfl rfl) ?_
  try dsimp only [St.put]
  refine ck rfl (fl rfl rfl zG trivial (by first | rfl | assumption)) ?_
  refine yM rfl rfl ?_
  try dsimp only [St.put]
  refine af rfl (b9 rfl rfl rfl (by decide) (by decide) zR (by decide) ?_)
  try dsimp only [St.put]
  refine af rfl (ce ([c5 p k]) rfl rfl zG zE rfl rfl zA ?_ zA)
  refine aa rfl (bk rfl rfl) ?_
  try dsimp only [St.put]
  refine af rfl (cc rfl rfl rfl zG (by constructor) rfl zO ?_)
  refine yN ?_
  dsimp only [St.put]
  rw [← pg k (c5 p)]
  exact zX
 dsimp only
 refine K3 _ ?_
 refine yS fun _ K5 => ?_
 refine yS fun _ K6 => ?_
 refine yR ?_
 refine yM rfl rfl ?_
 refine aa rfl (ky rfl rfl) ?_
 refine yF rfl rfl rfl rfl ?_
 refine yF rfl rfl rfl rfl ?_
 refine yL rfl rfl rfl ?_
 refine aa rfl (bn rfl rfl (List.length_map _)) ?_
 refine yM rfl rfl ?_
 refine yN ?_
 dsimp only [St.put]
 refine K6 _ ?_
 refine bf ?_
 refine ct 29 ?_
 refine zQ ?_
 refine c9 ((am (am (am (am (am G nx (.box 0 [.list [] .nil, .list [] .nil, .list [] .nil])) (nx + 1) (.box ((ci p)) [.list ((bp (ci p) (c5 p)).map cells) (.tip (nx + 1 + 1)), .list ((bp 0 (dg p)).map cells) (.tip (nx + 1 + 1 + 1)), .list (((p.pages.take 0).map (dq p)).map cells) (.tip (nx + 1 + 1 + 1 + 1))])) (nx + 1 + 1) (.tip (bp (ci p) (c5 p)).length 3 1)) (nx + 1 + 1 + 1) (.tip (bp 0 (dg p)).length 3 1)) (nx + 1 + 1 + 1 + 1) (.tip ((p.pages.take 0).map (dq p)).length 40 1))) zX ?_
 dsimp only
 refine c8 (X := Nat) (fun j => j ≤ p.pages.length) (fun j => p.pages.length - j) (fun j => [(6, .any), (7, .any), (8, .any), (9, .any), (10, .any), (11, .any), (12, .any), (28, .v (.int .i64 (j : Int)))]) (fun j G' => (am (am (am (am (am G nx (.box 0 [.list [] .nil, .list [] .nil, .list [] .nil])) (nx + 1) (.box ((ci p + 2 * j)) [.list ((bp (ci p) (c5 p)).map cells) (.tip (nx + 1 + 1)), .list ((bp j (dg p)).map cells) (.tip (nx + 1 + 1 + 1)), .list (((p.pages.take j).map (dq p)).map cells) (.tip (nx + 1 + 1 + 1 + 1))])) (nx + 1 + 1) (.tip (bp (ci p) (c5 p)).length 3 1)) (nx + 1 + 1 + 1) (.tip (bp j (dg p)).length 3 1)) (nx + 1 + 1 + 1 + 1) (.tip ((p.pages.take j).map (dq p)).length 40 1))) 0 rfl ?_ ?_ ?_ ?_ ?_ ?_
 ·exact Nat.zero_le _
 ·exact zF
 ·exact zX
 ·rintro j hI
  exact zL
 ·rintro j hI
  exact zH
 rintro j hJ
 dsimp only at hJ ⊢
 refine yS fun _ K7 => ?_
 refine yR ?_
 refine aa rfl (cn rfl rfl rfl) ?_
 refine yN ?_
 dsimp only [St.put]
 refine K7 _ ?_
 refine yS fun _ K8 => ?_
 refine aq rfl (fun hc => ?_) (fun hc => ?_)
 ·replace hc := of_decide_eq_true hc
  obtain ⟨x, hx⟩ : ∃ x, p.pages[j]? = some x := dm (by omega)
  have hw1 : (p.pages.map fun x => (dl p.text x : Int))[j]? = some (dl p.text x : Int) := qr (fun x => (dl p.text x : Int)) hx
  have hw2 := qr (cv p.text) hx
  have hgl := s9 p.text x
  have hwx := rm p.text x
  have hll := gt j (dg p)
  have hp := pageB_true.1 (h.page j x hx)
  have hp1 := hp.fst
  have hp2 := hp.snd
  have hll2 : ((p.pages.take j).map (dq p)).length ≤ 8 := by rw [List.length_map, List.length_take]; omega
  refine ay ?_
  refine K8 _ ?_
  refine yS fun _ K9 => ?_
  refine bf ?_
  refine yS fun _ K10 => ?_
  refine yR ?_
  refine yM rfl rfl ?_
  refine aa rfl (bw rfl rfl rfl rfl (bu (by assumption)) (Enc.len _)) ?_
  refine yE rfl rfl rfl ?_
  try dsimp only [St.put]
  refine af rfl (d7 rfl ?_)
  refine yA rfl rfl ?_
  try dsimp only [St.put]
  refine af rfl (dj rfl rfl rfl zG rfl rfl (by rfl) ?_)
  refine yN ?_
  dsimp only [St.put]
  refine K10 _ ?_
  refine gp (i := 7) rfl zG zC ?_
  dsimp only
  refine yS fun _ K11 => ?_
  refine g5 [(0, none), (1, none), (2, none), (3, none), (4, none), (5, none), (6, none), (7, none), (8, none), (9, none), (10, none), (11, none), (12, none), (13, none), (14, none), (15, none), (16, none), (17, none), (18, none), (19, none), (20, none), (21, none)] (fun i => [19, 21].contains i) (fun i => [18, 19, 21].contains i) (fun i => [0, 2, 3, 4, 6, 7, 9, 10, 11, 13, 14, 16, 17, 20].contains i) [nx + 1] (by kernel_rfl) (by kernel_rfl) ?_
  refine ae rfl rfl rfl rfl (bk rfl rfl) ?_
  try dsimp only [St.put]
  refine bd rfl rfl rfl rfl (fl rfl rfl zG (by simp) (by first | rfl | assumption)) ?_
  refine xM rfl rfl rfl rfl rfl ?_
  refine ae rfl rfl rfl rfl (ky rfl rfl) ?_
  refine ae rfl rfl rfl rfl (c4 rfl rfl rfl) ?_
  try dsimp only [St.put]
  refine bd rfl rfl rfl rfl (cm rfl rfl) ?_
  refine xM rfl rfl rfl rfl rfl ?_
  try dsimp only [St.put]
  refine ae rfl rfl rfl rfl (bw rfl rfl rfl rfl (bu (by assumption)) (Enc.len _)) ?_
  try dsimp only [St.put]
  refine bd rfl rfl rfl rfl (cm rfl rfl) ?_
  refine xM rfl rfl rfl rfl rfl ?_
  refine ae rfl rfl rfl rfl (ky rfl rfl) ?_
  refine ae rfl rfl rfl rfl (c4 rfl rfl rfl) ?_
  try dsimp only [St.put]
  refine bd rfl rfl rfl rfl (cm rfl rfl) ?_
  refine xM rfl rfl rfl rfl rfl ?_
  try dsimp only [St.put]
  refine ae rfl rfl rfl rfl (bw rfl rfl rfl rfl (bu (by assumption)) (Enc.len _)) ?_
  try dsimp only [St.put]
  refine bd rfl rfl rfl rfl (cm rfl rfl) ?_
  refine ae rfl rfl rfl rfl (bn rfl rfl (List.length_map _)) ?_
  refine ae rfl rfl rfl rfl (gh rfl rfl rfl (by omega)) ?_
  refine jl ?_
  try dsimp only [St.put]
  refine j2 rfl rfl rfl (b9 rfl rfl rfl (by decide) (by decide) zR (by decide) ⟨zD, ?_⟩)
  try dsimp only [St.put]
  refine iv rfl rfl rfl rfl (ce ([(dl p.text x : Int) - ((cv p.text x).length : Int)]) rfl rfl zG zE rfl rfl zA ?_ zA)
  refine em rfl rfl rfl rfl (bk rfl rfl) ?_
  try dsimp only [St.put]
  refine iv rfl rfl rfl rfl (cc rfl rfl rfl zG (by constructor) rfl zO ?_)
  refine jk ?_
  dsimp only [St.put]
  have e := pg j (dg p)
  rw [show dg p j = (dl p.text x : Int) - ((cv p.text x).length : Int) from mr hx _] at e
  simp only [← e]
  refine K11 _ ?_
  refine yS fun _ K12 => ?_
  refine yR ?_
  refine yA rfl rfl ?_
  refine yN ?_
  dsimp only [St.put]
  refine K12 _ ?_
  refine n5 8 3 1 rfl (by decide) ?_
  dsimp only [List.set_cons_zero, List.set_cons_succ]
  refine yS fun _ K13 => ?_
  refine yR ?_
  refine yA rfl rfl ?_
  refine yN ?_
  dsimp only [St.put]
  refine K13 _ ?_
  refine yS fun _ K14 => ?_
  refine yS fun _ K15 => ?_
  refine yR ?_
  try dsimp only [St.put]
  refine ck rfl (mp (n := 6) (m := n) rfl rfl zG rfl) ?_
  refine yM rfl rfl ?_
  refine yN ?_
  dsimp only [St.put]
  refine K15 _ ?_
  refine bf ?_
  refine ct 56 ?_
  refine zQ ?_
  refine c9 (am ((am (am (am (am (am G nx (.box 0 [.list [] .nil, .list [] .nil, .list [] .nil])) (nx + 1) (.box ((ci p + 2 * j + 1)) [.list ((bp (ci p) (c5 p)).map cells) (.tip (nx + 1 + 1)), .list ((bp (j + 1) (dg p)).map cells) (.tip (nx + 1 + 1 + 1)), .list (((p.pages.take j).map (dq p)).map cells) (.tip (nx + 1 + 1 + 1 + 1))])) (nx + 1 + 1) (.tip (bp (ci p) (c5 p)).length 3 1)) (nx + 1 + 1 + 1) (.tip (bp (j + 1) (dg p)).length 3 1)) (nx + 1 + 1 + 1 + 1) (.tip ((p.pages.take j).map (dq p)).length 40 1))) (nx + 1 + 1 + 1 + 1 + 1 + 1) (.tip 0 3 1)) zX ?_
  dsimp only
  refine c8 (X := Nat) (fun k => k ≤ 2) (fun k => 2 - k) (fun k => [(8, .list ((ov p x k).map cells) (.tip (nx + 1 + 1 + 1 + 1 + 1 + 1))), (9, .v (.int .i64 (sdN p k : Int))), (11, .any), (12, .any), (55, .v (.int .i64 (k : Int)))]) (fun k G' => am ((am (am (am (am (am G nx (.box 0 [.list [] .nil, .list [] .nil, .list [] .nil])) (nx + 1) (.box ((ci p + 2 * j + 1)) [.list ((bp (ci p) (c5 p)).map cells) (.tip (nx + 1 + 1)), .list ((bp (j + 1) (dg p)).map cells) (.tip (nx + 1 + 1 + 1)), .list (((p.pages.take j).map (dq p)).map cells) (.tip (nx + 1 + 1 + 1 + 1))])) (nx + 1 + 1) (.tip (bp (ci p) (c5 p)).length 3 1)) (nx + 1 + 1 + 1) (.tip (bp (j + 1) (dg p)).length 3 1)) (nx + 1 + 1 + 1 + 1) (.tip ((p.pages.take j).map (dq p)).length 40 1))) (nx + 1 + 1 + 1 + 1 + 1 + 1) (.tip (ov p x k).length 3 1)) 0 rfl ?_ ?_ ?_ ?_ ?_ ?_
  ·exact Nat.zero_le _
  ·exact zF
  ·exact zX
  ·rintro k hI
   exact zL
  ·rintro k hI
   exact zH
  rintro k hK
  dsimp only at hK ⊢
  refine yS fun _ K16 => ?_
  refine yR ?_
  refine aa rfl (cn rfl rfl rfl) ?_
  refine yN ?_
  dsimp only [St.put]
  refine K16 _ ?_
  refine yS fun _ K17 => ?_
  refine aq rfl (fun hc => ?_) (fun hc => ?_)
  ·replace hc := of_decide_eq_true hc
   have hk : k < 2 := by omega
   have hsd : sdN p k ≤ 3 ∧ (du p (decide (k = 1))).length ≤ 3 ∧ -1 ≤ eg (decide (k = 1)) x ∧ eg (decide (k = 1)) x ≤ 3 := by
    have : k = 0 ∨ k = 1 := by omega
    rcases this with rfl | rfl
    ·exact ⟨Nat.zero_le _, hn1, by show -1 ≤ x.fst; omega, by show x.fst ≤ 3; omega⟩
    exact ⟨hn1, hn2, by show -1 ≤ x.snd; omega, by show x.snd ≤ 3; omega⟩
   have hst : ov p x (k + 1) = ov p x k ++ bif decide (0 ≤ eg (decide (k = 1)) x) then [(sdN p k : Int) + eg (decide (k = 1)) x] else [] := rfl
   have hrl := ua7 p x k
   refine ay ?_
   refine K17 _ ?_
   refine yS fun _ K18 => ?_
   refine bf ?_
   refine yS fun _ K19 => ?_
   refine yR ?_
   refine aa rfl (ux (k := k) (m := 2) (sz := 3) rfl rfl rfl rfl hk (ue hk)) ?_
   try dsimp only [St.put]
   refine af rfl (d7 rfl ?_)
   try dsimp only [St.put]
   refine af rfl (dj rfl rfl rfl zG rfl rfl (by rfl) ?_)
   refine yN ?_
   dsimp only [St.put]
   refine K19 _ ?_
   refine gp (i := 11) rfl zG zC ?_
   dsimp only
   refine yS fun _ K20 => ?_
   refine yS fun _ K21 => ?_
   refine yR ?_
   refine yF rfl rfl rfl rfl ?_
   refine yL rfl rfl rfl ?_
   refine yE rfl rfl rfl ?_
   try dsimp only [St.put]
   refine af rfl (bc rfl rfl rfl (xc (decide (k = 1)) x) ?_)
   refine yA rfl rfl ?_
   refine yN ?_
   dsimp only [St.put]
   refine K21 _ ?_
   refine yS fun _ K22 => ?_
   refine yR ?_
   refine yM rfl rfl ?_
   refine aa rfl (kz rfl rfl rfl) ?_
   refine yN ?_
   dsimp only [St.put]
   refine K22 _ ?_
   refine aq rfl (fun hc => ?_) (fun hc => ?_)
   ·have hyes : 0 ≤ eg (decide (k = 1)) x := of_decide_eq_true hc
    refine yR ?_
    refine yM rfl rfl ?_
    refine yM rfl rfl ?_
    refine yM rfl rfl ?_
    refine aa rfl (bx rfl rfl rfl (by omega)) ?_
    try dsimp only [St.put]
    refine af rfl (b9 rfl rfl rfl (by decide) (by decide) zR (by decide) ?_)
    try dsimp only [St.put]
    refine af rfl (ce ([(sdN p k : Int) + eg (decide (k = 1)) x]) rfl rfl zG zE rfl rfl zA ?_ zA)
    refine yA rfl rfl ?_
    refine yN ?_
    dsimp only [St.put]
    refine K20 _ ?_
    refine g5 [(0, none), (1, none), (2, none), (3, none), (4, none), (5, none), (6, none), (7, none), (8, none), (9, none), (10, none)] (fun i => [7].contains i) (fun i => [7].contains i) (fun i => [0, 1, 3, 4, 5, 8, 9, 10].contains i) [] (by kernel_rfl) (by kernel_rfl) ?_
    refine xM rfl rfl rfl rfl rfl ?_
    refine ae rfl rfl rfl rfl (c4 rfl rfl rfl) ?_
    try dsimp only [St.put]
    refine bd rfl rfl rfl rfl (cm rfl rfl) ?_
    refine xM rfl rfl rfl rfl rfl ?_
    refine ae rfl rfl rfl rfl (ky rfl rfl) ?_
    refine ae rfl rfl rfl rfl (c4 rfl rfl rfl) ?_
    try dsimp only [St.put]
    refine bd rfl rfl rfl rfl (c := val p) (jx (cs := ka p) rfl rfl (show 4 ≤ 7 by decide)) ?_
    refine jl ?_
    try dsimp only [St.put]
    refine iv rfl rfl rfl rfl (bc rfl rfl rfl (ot (decide (k = 1)) p) ?_)
    refine em rfl rfl rfl rfl (bn rfl rfl (List.length_map _)) ?_
    refine em rfl rfl rfl rfl (bx rfl rfl rfl (by omega)) ?_
    refine em rfl rfl rfl rfl (fp rfl (by constructor)) ?_
    refine jk ?_
    dsimp only [St.put]
    refine K18 _ ?_
    refine yR ?_
    refine aa rfl (bx rfl rfl rfl (by omega)) ?_
    refine yM rfl rfl ?_
    refine yN ?_
    dsimp only [St.put]
    rw [show ((sdN p k : Nat) : Int) + ((du p (decide (k = 1))).length : Int) = ((sdN p (k + 1) : Nat) : Int) by rw [xb hk]; omega]
    first
    | (have z : 0 ≤ eg (decide (k = 1)) x := hyes
       rw [decide_eq_true z, cond_true] at hst
       rw [← hst]
       exact ⟨k + 1, by omega, by omega, ⟨⟨rfl, rfl⟩, zF, zB, zN, zX⟩⟩)
    | (have z : ¬ 0 ≤ eg (decide (k = 1)) x := hno
       rw [decide_eq_false z, cond_false, List.append_nil] at hst
       rw [← hst]
       exact ⟨k + 1, by omega, by omega, ⟨⟨rfl, rfl⟩, zF, zB, zN, zX⟩⟩)
   have hno : ¬ 0 ≤ eg (decide (k = 1)) x := of_decide_eq_false hc
   refine ay ?_
   refine K20 _ ?_
   refine g5 [(0, none), (1, none), (2, none), (3, none), (4, none), (5, none), (6, none), (7, none), (8, none), (9, none), (10, none)] (fun i => [7].contains i) (fun i => [7].contains i) (fun i => [0, 1, 3, 4, 5, 8, 9, 10].contains i) [] (by kernel_rfl) (by kernel_rfl) ?_
   refine xM rfl rfl rfl rfl rfl ?_
   refine ae rfl rfl rfl rfl (c4 rfl rfl rfl) ?_
   try dsimp only [St.put]
   refine bd rfl rfl rfl rfl (cm rfl rfl) ?_
   refine xM rfl rfl rfl rfl rfl ?_
   refine ae rfl rfl rfl rfl (ky rfl rfl) ?_
   refine ae rfl rfl rfl rfl (c4 rfl rfl rfl) ?_
   try dsimp only [St.put]
   refine bd rfl rfl rfl rfl (c := val p) (jx (cs := ka p) rfl rfl (show 4 ≤ 7 by decide)) ?_
   refine jl ?_
   try dsimp only [St.put]
   refine iv rfl rfl rfl rfl (bc rfl rfl rfl (ot (decide (k = 1)) p) ?_)
   refine em rfl rfl rfl rfl (bn rfl rfl (List.length_map _)) ?_
   refine em rfl rfl rfl rfl (bx rfl rfl rfl (by omega)) ?_
   refine em rfl rfl rfl rfl (fp rfl (by constructor)) ?_
   refine jk ?_
   dsimp only [St.put]
   refine K18 _ ?_
   refine yR ?_
   refine aa rfl (bx rfl rfl rfl (by omega)) ?_
   refine yM rfl rfl ?_
   refine yN ?_
   dsimp only [St.put]
   rw [show ((sdN p k : Nat) : Int) + ((du p (decide (k = 1))).length : Int) = ((sdN p (k + 1) : Nat) : Int) by rw [xb hk]; omega]
   first
   | (have z : 0 ≤ eg (decide (k = 1)) x := hyes
      rw [decide_eq_true z, cond_true] at hst
      rw [← hst]
      exact ⟨k + 1, by omega, by omega, ⟨⟨rfl, rfl⟩, zF, zB, zN, zX⟩⟩)
   | (have z : ¬ 0 ≤ eg (decide (k = 1)) x := hno
      rw [decide_eq_false z, cond_false, List.append_nil] at hst
      rw [← hst]
      exact ⟨k + 1, by omega, by omega, ⟨⟨rfl, rfl⟩, zF, zB, zN, zX⟩⟩)
  replace hc := of_decide_eq_false hc
  obtain rfl : k = 2 := by omega
  rw [uh9]
  refine vz 8 (lst (dq p x)) rfl Wk.tok ?_
  refine c7 ?_
  refine K14 _ ?_
  refine yR ?_
  refine aa rfl (bk rfl rfl) ?_
  try dsimp only [St.put]
  refine ck rfl (fl rfl rfl zG trivial (by first | rfl | assumption)) ?_
  refine yM rfl rfl ?_
  try dsimp only [St.put]
  refine af rfl (b9 rfl rfl rfl (by decide) (by decide) zR (by decide) ?_)
  try dsimp only [St.put]
  refine af rfl (ce ([dq p x]) rfl rfl zG zE rfl rfl zA ?_ zA)
  refine aa rfl (bk rfl rfl) ?_
  try dsimp only [St.put]
  refine af rfl (cc rfl rfl rfl zG (by constructor) rfl zO ?_)
  refine yN ?_
  dsimp only [St.put]
  refine K9 _ ?_
  refine yR ?_
  refine aa rfl (bx rfl rfl rfl (by omega)) ?_
  refine yM rfl rfl ?_
  refine yN ?_
  dsimp only [St.put]
  have e2 := uj5 (dq p) hx
  simp only [← e2]
  exact ⟨j + 1, by omega, by omega, ⟨⟨rfl, rfl⟩, zF, zB, zN, zX⟩⟩
 replace hc := of_decide_eq_false hc
 obtain rfl : j = p.pages.length := by omega
 rw [List.take_length]
 refine v6 (nx + 1) (ci p + 2 * p.pages.length) (cells (ge p (c5 p) (dg p))) zG zW ?_
 refine c7 ?_
 refine K5 _ ?_
 refine yS fun _ K23 => ?_
 refine g5 [(0, none), (1, none), (2, none), (3, none), (4, none), (5, none), (6, none)] (fun i => [5].contains i) (fun i => [3, 5].contains i) (fun i => [1, 4, 6].contains i) [nx + 1] (by kernel_rfl) (by kernel_rfl) ?_
 try dsimp only [St.put]
 refine bd rfl rfl rfl rfl (i1 rfl rfl zG (by simp) (by rfl)) ?_
 refine ae rfl rfl rfl rfl (bk rfl rfl) ?_
 try dsimp only [St.put]
 refine bd rfl rfl rfl rfl (fl rfl rfl zG (by simp) (by first | rfl | assumption)) ?_
 refine jl ?_
 try dsimp only [St.put]
 refine j2 rfl rfl rfl (bc rfl rfl rfl (wg (bp (ci p) (c5 p)) (fun z => decide (z < 0)) _ _ fun z _ => uhw z) ⟨zD, ?_⟩)
 refine em rfl rfl rfl rfl (dw rfl rfl) ?_
 try dsimp only [St.put]
 refine iv rfl rfl rfl rfl (dj rfl rfl rfl zG rfl rfl (by rfl) ?_)
 refine em rfl rfl rfl rfl (fp rfl (by constructor)) ?_
 refine jk ?_
 dsimp only [St.put]
 refine K23 _ ?_
 refine ax ?_
 refine g8 rfl (jy rfl zG (by rfl) zC rfl) (ed (by constructor)) zN zS ?_ ?_
 ·exact zW
 rw [ukk]; exact zW
theorem uhy (m : Nat) (e : Int) (p : ah) : C.low m (bif decide (e = 0) then val (ge p (c5 p) (dg p)) else .agg [.list [] .nil, .list [] .nil, .list [] .nil]) := by
 cases decide (e = 0)
 ·exact .agg (cp fg (cp fg (cp fg dn)))
 exact ei _ _
theorem ubn (n : Nat) (p : ah) (c : C) (e : Int) (h : e = 0 → dv p ∧ c = .elem (ka p)) : et n eo Tryz.prog 41 [c, .v (.int .i64 e)] (.tup [bif decide (fh p e = 0) then val (ge p (c5 p) (dg p)) else .agg [.list [] .nil, .list [] .nil, .list [] .nil], .v (.int .i64 (fh p e))]) := fun G nx hF hnx => by
 refine ii (G) (nx) Tryz.func41 rfl (.tup (cp (uhy _ _ _) (cp .v dn))) zN (fun hlt => zH) ?_
 simp only [Tryz.ntmps41, List.length_cons, List.length_nil, Nat.reduceAdd, Nat.reduceSub]
 refine ca fun hlt => ?_
 dsimp only at hlt
 refine yS fun _ K1 => ?_
 refine yR ?_
 try dsimp only [St.put]
 refine af rfl (d7 rfl ?_)
 refine yA rfl rfl ?_
 refine yN ?_
 dsimp only [St.put]
 refine K1 _ ?_
 refine yS fun _ K2 => ?_
 refine yS fun _ K3 => ?_
 refine yR ?_
 refine yM rfl rfl ?_
 refine aa rfl (fb rfl rfl rfl) ?_
 refine yN ?_
 dsimp only [St.put]
 refine K3 _ ?_
 refine aq rfl (fun hc => ?_) (fun hc => ?_)
 ·have h0 : e ≠ 0 := jg hc
  have hE : fh p e = e := ucw h0
  refine yS fun _ K4 => ?_
  refine yR ?_
  refine aa rfl (im rfl rfl) ?_
  refine yM rfl rfl ?_
  try dsimp only [St.put]
  refine af rfl (dj rfl rfl rfl zG rfl rfl (by rfl) ?_)
  refine yA rfl rfl ?_
  refine yN ?_
  dsimp only [St.put]
  refine K4 _ ?_
  refine ax ?_
  refine g8 rfl (jy rfl zG (by rfl) zC rfl) (ed (by constructor)) zN zS ?_ ?_
  ·rw [hE, decide_eq_false h0]; exact zW
  rw [hE]; exact zW
 have h0 : e = 0 := ia hc
 obtain ⟨hok, rfl⟩ := h h0
 subst h0
 refine ay ?_
 refine K2 _ ?_
 refine yS fun _ K5 => ?_
 refine yR ?_
 refine yM rfl rfl ?_
 try dsimp only [St.put]
 refine af rfl (ec rfl rfl rfl (uit n p hok) zG (by dsimp only [St.put]; omega) ?_)
 refine yM rfl rfl ?_
 refine yX rfl rfl rfl rfl ?_
 refine yX rfl rfl rfl rfl ?_
 try dsimp only [St.put]
 refine af rfl (d7 rfl ?_)
 try dsimp only [St.put]
 refine af rfl (dj rfl rfl rfl zG rfl rfl (by rfl) ?_)
 refine yA rfl rfl ?_
 refine yN ?_
 dsimp only [St.put]
 refine K5 _ ?_
 refine yS fun _ K6 => ?_
 refine yS fun _ K7 => ?_
 refine yR ?_
 refine yM rfl rfl ?_
 refine aa rfl (dw rfl rfl) ?_
 refine yN ?_
 dsimp only [St.put]
 refine K7 _ ?_
 refine aq rfl (fun hc => ?_) (fun hc => ?_)
 ·have hTB : gm p = false := by simpa using hc
  have hE : fh p 0 = 8 := by rw [qv, hTB]; rfl
  refine yS fun _ K8 => ?_
  refine yR ?_
  refine aa rfl (im rfl rfl) ?_
  try dsimp only [St.put]
  refine af rfl (dj rfl rfl rfl zG rfl rfl (by rfl) ?_)
  refine yA rfl rfl ?_
  refine yN ?_
  dsimp only [St.put]
  refine K8 _ ?_
  refine ax ?_
  refine g8 rfl (jy rfl zG (by rfl) zC rfl) (ed (by constructor)) zN zS ?_ ?_
  ·rw [hE]; exact zW
  rw [hE]; exact zW
 have hTB : gm p = true := by simpa using hc
 have hE : fh p 0 = 0 := by rw [qv, hTB]; rfl
 refine ay ?_
 refine K6 _ ?_
 refine yS fun _ K9 => ?_
 refine yR ?_
 try dsimp only [St.put]
 refine ck rfl (i1 rfl rfl zG trivial (by rfl)) ?_
 try dsimp only [St.put]
 refine af rfl (dj rfl rfl rfl zG rfl rfl (by rfl) ?_)
 refine yA rfl rfl ?_
 refine yN ?_
 dsimp only [St.put]
 refine K9 _ ?_
 refine ax ?_
 refine g8 rfl (jy rfl zG (by rfl) zC rfl) (ed (by constructor)) zN zS ?_ ?_
 ·rw [hE]; exact zW
 rw [hE]; exact zW
end Go.Proofs.YtbbdginipiljdaaGreatDoor
namespace Go.AB
open Go Go.RowKit
open Go.AB.Enc (cells)
open Go.PB (az ai PlaceD bg bj bi bv aw ah cx br da dh)
/-- what may remain ahead of a page, by the worst truth -/
noncomputable def rmR (p : ah) (i : Nat) : Nat → Int := ((bt p).room (c5 p) (dg p) i).1
noncomputable def rmC (p : ah) (i : Nat) : Nat → Int := ((bt p).room (c5 p) (dg p) i).2
theorem uhu (p : ah) (i : Nat) : rmR p (i + 1) = (bt p).lessR (rmR p i) i (f3 p i) := rfl
theorem uhv (p : ah) (i : Nat) : rmC p (i + 1) = ep (rmC p i) i := rfl
theorem zt {p : ah} (h : dv p) (ht : gm p = true) {i : Nat} (hi : i < p.pages.length) : (bt p).Pick (rmR p i) (rmC p i) i ((bt p).pick (rmR p i) (rmC p i) i) :=
 Net.worst_pick (pr h) (t6 ht) (fun j _ => tf h j) hi
theorem zu (p : ah) (i : Nat) : f3 p i = (bt p).pick (rmR p i) (rmC p i) i := rfl
theorem ua2 {p : ah} (h : dv p) (ht : gm p = true) : ∀ {i : Nat}, i ≤ p.pages.length → Bd p (rmR p i) (rmC p i)
 | 0, _ => th h
 | i + 1, hi => by
  have hp := zt h ht (i := i) (by omega)
  rw [uhu, uhv, zu]
  exact zf (ua2 h ht (by omega)) hp.nn hp.le
theorem und {p : ah} {R C : Nat → Int} (hB : Bd p R C) (j : Nat) : (bt p).alone R C j ≤ 1000000 := Int.le_trans (Net.le_alone.1 (Int.le_refl _)).1 (hB.c j).2
end Go.AB
namespace Go.Proofs.YtbbdginipiljdaaGreatDoor
set_option maxRecDepth 10000
open Go.RowKit Go.AB
open Go.AB.Enc (cells)
open Go.PB (az ai PlaceD bg bj bi bv aw ah cx br da dh)
end Go.Proofs.YtbbdginipiljdaaGreatDoor
namespace Go.AB
open Go Go.RowKit
open Go.AB.Enc (cells)
open Go.PB (az ai PlaceD bg bj bi bv aw ah cx br da dh)
theorem sq {p : ah} {e : Int} (h : fh p e = 0) : e = 0 ∧ gm p = true := by
 by_cases h0 : e = 0
 ·subst h0
  rw [qv] at h
  cases ht : gm p
  ·rw [ht] at h; cases h
  exact ⟨rfl, rfl⟩
 rw [ucw h0] at h; exact absurd h h0
end Go.AB
namespace Go.Proofs.YtbbdginipiljdaaGreatDoor
set_option maxRecDepth 10000
open Go Go.RowKit Go.AB
open Go.AB.Enc (cells)
open Go.PB (az ai PlaceD bg bj bi bv aw ah cx br da dh)
theorem ue1 {p : ah} {n : Int} (h : el p n = 0) : dv p ∧ pgC p n = .elem (ka p) := ⟨(ld (qb h).1).1, r5 h⟩
theorem o9 {p : ah} (h : cw p = 0) : dv p ∧ jq p = .elem (ka p) := ⟨(ld h).1, ur h⟩
theorem r7 (n : Nat) (p : ah) (c : C) (e : Int) (h : e = 0 → dv p ∧ c = .elem (ka p)) (hE : fh p e = 0) : et n eo Tryz.prog 41 [c, .v (.int .i64 e)] (.tup [val (ge p (c5 p) (dg p)), .v (.int .i64 0)]) := by
 have := ubn n p c e h
 rwa [hE, decide_eq_true rfl, cond_true] at this
theorem r8 (n : Nat) (p : ah) (c : C) (e : Int) (h : e = 0 → dv p ∧ c = .elem (ka p)) (hE : fh p e ≠ 0) : et n eo Tryz.prog 41 [c, .v (.int .i64 e)] (.tup [.agg [.list [] .nil, .list [] .nil, .list [] .nil], .v (.int .i64 (fh p e))]) := by
 have := ubn n p c e h
 rwa [decide_eq_false hE, cond_false] at this
theorem uiu (n : Nat) (p : ah) (m : Int) : et n eo Tryz.prog 11 [val p, .v (.int .i64 m)] (.tup [val (pk p m), .v (.int .i64 (fh p (el p m)))]) := fun G nx hF hnx => by
 refine ii (G) (nx) Tryz.func11 rfl (.tup (cp (ei _ _) (cp .v dn))) zN (fun hlt => zH) ?_
 simp only [Tryz.ntmps11, List.length_cons, List.length_nil, Nat.reduceAdd, Nat.reduceSub]
 refine ca fun hlt => ?_
 dsimp only at hlt
 refine yS fun _ K1 => ?_
 refine yR ?_
 try dsimp only [St.put]
 refine yB rfl rfl rfl ?_
 try dsimp only [St.put]
 refine af rfl (d7 rfl ?_)
 refine yA rfl rfl ?_
 refine yN ?_
 dsimp only [St.put]
 refine K1 _ ?_
 refine yS fun _ K2 => ?_
 by_cases hL : fh p (el p m) = 0
 ·refine yR ?_
  refine yE rfl rfl rfl ?_
  refine yM rfl rfl ?_
  try dsimp only [St.put]
  refine af rfl (ec rfl rfl rfl (qn n p m) zG (by dsimp only [St.put]; omega) ?_)
  refine yX rfl rfl rfl rfl ?_
  refine yX rfl rfl rfl rfl ?_
  try dsimp only [St.put]
  refine af rfl (ec rfl rfl rfl (r7 n p (pgC p m) (el p m) ue1 hL) zG (by dsimp only [St.put]; omega) ?_)
  refine yM rfl rfl ?_
  refine yX rfl rfl rfl rfl ?_
  refine yX rfl rfl rfl rfl ?_
  try dsimp only [St.put]
  refine af rfl (d7 rfl ?_)
  try dsimp only [St.put]
  refine af rfl (dj rfl rfl rfl zG rfl rfl (by rfl) ?_)
  refine yA rfl rfl ?_
  refine yN ?_
  dsimp only [St.put]
  refine K2 _ ?_
  refine yS fun _ K3 => ?_
  refine yS fun _ K4 => ?_
  refine yR ?_
  refine yM rfl rfl ?_
  refine aa rfl (fb rfl rfl rfl) ?_
  refine yN ?_
  dsimp only [St.put]
  refine K4 _ ?_
  refine aq rfl (fun hc => ?_) (fun hc => ?_)
  ·exact absurd hc (by decide)
  obtain ⟨h0, hTB⟩ := sq hL
  obtain ⟨hc0, j, x, rfl, hx, hpo⟩ := qb h0
  obtain ⟨hok, _⟩ := ld hc0
  have hV : pk p (j : Int) = ⟨0, (bt p).alone (c5 p) (dg p) j⟩ := by unfold pk; rw [hL, n7, Int.toNat_natCast]
  refine ay ?_
  refine K3 _ ?_
  refine yS fun _ K5 => ?_
  refine yR ?_
  try dsimp only [St.put]
  refine ck rfl (i1 rfl rfl zG trivial (by rfl)) ?_
  refine yM rfl rfl ?_
  try dsimp only [St.put]
  refine af rfl (bc rfl rfl rfl (ubp p (c5 p) (dg p) j x hok hx) ?_)
  refine aa rfl (im rfl rfl) ?_
  try dsimp only [St.put]
  refine af rfl (dj rfl rfl rfl zG rfl rfl (by rfl) ?_)
  refine yA rfl rfl ?_
  refine yN ?_
  dsimp only [St.put]
  refine K5 _ ?_
  refine ax ?_
  refine g8 rfl (jy rfl zG (by rfl) zC rfl) (ed (by constructor)) zN zS ?_ ?_
  ·rw [hV]; exact zW
  rw [hL]; exact zW
 refine yR ?_
 refine yE rfl rfl rfl ?_
 refine yM rfl rfl ?_
 try dsimp only [St.put]
 refine af rfl (ec rfl rfl rfl (qn n p m) zG (by dsimp only [St.put]; omega) ?_)
 refine yX rfl rfl rfl rfl ?_
 refine yX rfl rfl rfl rfl ?_
 try dsimp only [St.put]
 refine af rfl (ec rfl rfl rfl (r8 n p (pgC p m) (el p m) ue1 hL) zG (by dsimp only [St.put]; omega) ?_)
 refine yM rfl rfl ?_
 refine yX rfl rfl rfl rfl ?_
 refine yX rfl rfl rfl rfl ?_
 try dsimp only [St.put]
 refine af rfl (d7 rfl ?_)
 try dsimp only [St.put]
 refine af rfl (dj rfl rfl rfl zG rfl rfl (by rfl) ?_)
 refine yA rfl rfl ?_
 refine yN ?_
 dsimp only [St.put]
 refine K2 _ ?_
 refine yS fun _ K6 => ?_
 refine yS fun _ K7 => ?_
 refine yR ?_
 refine yM rfl rfl ?_
 refine aa rfl (fb rfl rfl rfl) ?_
 refine yN ?_
 dsimp only [St.put]
 refine K7 _ ?_
 refine aq rfl (fun hc => ?_) (fun hc => ?_)
 ·have hV : pk p m = ⟨0, 0⟩ := by unfold pk; rw [lf hL]
  refine yS fun _ K8 => ?_
  refine yR ?_
  refine aa rfl (im rfl rfl) ?_
  refine yM rfl rfl ?_
  try dsimp only [St.put]
  refine af rfl (dj rfl rfl rfl zG rfl rfl (by rfl) ?_)
  refine yA rfl rfl ?_
  refine yN ?_
  dsimp only [St.put]
  refine K8 _ ?_
  refine ax ?_
  refine g8 rfl (jy rfl zG (by rfl) zC rfl) (ed (by constructor)) zN zS ?_ ?_
  ·rw [hV]; exact zW
  exact zW
 exact absurd (ia hc) hL
theorem uiq (n : Nat) (p : ah) : et n eo Tryz.prog 13 [val p] (.tup [val (qh p), .v (.int .i64 (fh p (cw p)))]) := fun G nx hF hnx => by
 refine ii (G) (nx) Tryz.func13 rfl (.tup (cp (ei _ _) (cp .v dn))) zN (fun hlt => zH) ?_
 simp only [Tryz.ntmps13, List.length_cons, List.length_nil, Nat.reduceAdd, Nat.reduceSub]
 refine ca fun hlt => ?_
 dsimp only at hlt
 refine yS fun _ K1 => ?_
 refine yR ?_
 try dsimp only [St.put]
 refine yB rfl rfl rfl ?_
 try dsimp only [St.put]
 refine af rfl (d7 rfl ?_)
 refine yA rfl rfl ?_
 refine yN ?_
 dsimp only [St.put]
 refine K1 _ ?_
 refine yS fun _ K2 => ?_
 by_cases hL : fh p (cw p) = 0
 ·refine yR ?_
  refine yE rfl rfl rfl ?_
  try dsimp only [St.put]
  refine af rfl (ec rfl rfl rfl (nk n p) zG (by dsimp only [St.put]; omega) ?_)
  refine yX rfl rfl rfl rfl ?_
  refine yX rfl rfl rfl rfl ?_
  try dsimp only [St.put]
  refine af rfl (ec rfl rfl rfl (r7 n p (jq p) (cw p) o9 hL) zG (by dsimp only [St.put]; omega) ?_)
  refine yM rfl rfl ?_
  refine yX rfl rfl rfl rfl ?_
  refine yX rfl rfl rfl rfl ?_
  try dsimp only [St.put]
  refine af rfl (d7 rfl ?_)
  try dsimp only [St.put]
  refine af rfl (dj rfl rfl rfl zG rfl rfl (by rfl) ?_)
  refine yA rfl rfl ?_
  refine yN ?_
  dsimp only [St.put]
  refine K2 _ ?_
  refine yS fun _ K3 => ?_
  refine yS fun _ K4 => ?_
  refine yR ?_
  refine yM rfl rfl ?_
  refine aa rfl (fb rfl rfl rfl) ?_
  refine yN ?_
  dsimp only [St.put]
  refine K4 _ ?_
  refine aq rfl (fun hc => ?_) (fun hc => ?_)
  ·exact absurd hc (by decide)
  obtain ⟨h0, hTB⟩ := sq hL
  obtain ⟨hok, _⟩ := ld h0
  have hV : qh p = ⟨0, (bt p).most (c5 p) (dg p)⟩ := by unfold qh; rw [hL, n7]; rfl
  refine ay ?_
  refine K3 _ ?_
  refine yS fun _ K5 => ?_
  refine yR ?_
  try dsimp only [St.put]
  refine ck rfl (i1 rfl rfl zG trivial (by rfl)) ?_
  try dsimp only [St.put]
  refine af rfl (bc rfl rfl rfl (r9 p (c5 p) (dg p) hok (th hok)) ?_)
  refine aa rfl (im rfl rfl) ?_
  try dsimp only [St.put]
  refine af rfl (dj rfl rfl rfl zG rfl rfl (by rfl) ?_)
  refine yA rfl rfl ?_
  refine yN ?_
  dsimp only [St.put]
  refine K5 _ ?_
  refine ax ?_
  refine g8 rfl (jy rfl zG (by rfl) zC rfl) (ed (by constructor)) zN zS ?_ ?_
  ·rw [hV]; exact zW
  rw [hL]; exact zW
 refine yR ?_
 refine yE rfl rfl rfl ?_
 try dsimp only [St.put]
 refine af rfl (ec rfl rfl rfl (nk n p) zG (by dsimp only [St.put]; omega) ?_)
 refine yX rfl rfl rfl rfl ?_
 refine yX rfl rfl rfl rfl ?_
 try dsimp only [St.put]
 refine af rfl (ec rfl rfl rfl (r8 n p (jq p) (cw p) o9 hL) zG (by dsimp only [St.put]; omega) ?_)
 refine yM rfl rfl ?_
 refine yX rfl rfl rfl rfl ?_
 refine yX rfl rfl rfl rfl ?_
 try dsimp only [St.put]
 refine af rfl (d7 rfl ?_)
 try dsimp only [St.put]
 refine af rfl (dj rfl rfl rfl zG rfl rfl (by rfl) ?_)
 refine yA rfl rfl ?_
 refine yN ?_
 dsimp only [St.put]
 refine K2 _ ?_
 refine yS fun _ K6 => ?_
 refine yS fun _ K7 => ?_
 refine yR ?_
 refine yM rfl rfl ?_
 refine aa rfl (fb rfl rfl rfl) ?_
 refine yN ?_
 dsimp only [St.put]
 refine K7 _ ?_
 refine aq rfl (fun hc => ?_) (fun hc => ?_)
 ·have hV : qh p = ⟨0, 0⟩ := by unfold qh; rw [lf hL]
  refine yS fun _ K8 => ?_
  refine yR ?_
  refine aa rfl (im rfl rfl) ?_
  refine yM rfl rfl ?_
  try dsimp only [St.put]
  refine af rfl (dj rfl rfl rfl zG rfl rfl (by rfl) ?_)
  refine yA rfl rfl ?_
  refine yN ?_
  dsimp only [St.put]
  refine K8 _ ?_
  refine ax ?_
  refine g8 rfl (jy rfl zG (by rfl) zC rfl) (ed (by constructor)) zN zS ?_ ?_
  ·rw [hV]; exact zW
  exact zW
 exact absurd (ia hc) hL
set_option maxHeartbeats 1000000 in
theorem xl (n0 : Nat) (p : ah) : et n0 eo Tryz.prog 15 [val p] (.tup [lst (mj p), .v (.int .i64 (fh p (cw p)))]) := fun G nx hF hnx => by
 refine ii (G) (nx) Tryz.func15 rfl (.tup (cp (bz _ _) (cp .v dn))) zN (fun hlt => zH) ?_
 simp only [Tryz.ntmps15, List.length_cons, List.length_nil, Nat.reduceAdd, Nat.reduceSub]
 refine ca fun hlt => ?_
 dsimp only at hlt
 refine yS fun _ K1 => ?_
 refine yR ?_
 try dsimp only [St.put]
 refine yB rfl rfl rfl ?_
 refine yA rfl rfl ?_
 refine yA rfl rfl ?_
 refine yN ?_
 dsimp only [St.put]
 refine K1 _ ?_
 refine yS fun _ K2 => ?_
 by_cases hL : fh p (cw p) = 0
 ·refine yR ?_
  refine yE rfl rfl rfl ?_
  try dsimp only [St.put]
  refine af rfl (ec rfl rfl rfl (nk n0 p) zG (by dsimp only [St.put]; omega) ?_)
  refine yX rfl rfl rfl rfl ?_
  refine yX rfl rfl rfl rfl ?_
  try dsimp only [St.put]
  refine af rfl (ec rfl rfl rfl (r7 n0 p (jq p) (cw p) o9 hL) zG (by dsimp only [St.put]; omega) ?_)
  refine yM rfl rfl ?_
  refine yX rfl rfl rfl rfl ?_
  refine yX rfl rfl rfl rfl ?_
  try dsimp only [St.put]
  refine af rfl (d7 rfl ?_)
  try dsimp only [St.put]
  refine af rfl (dj rfl rfl rfl zG rfl rfl (by rfl) ?_)
  refine yA rfl rfl ?_
  refine yN ?_
  dsimp only [St.put]
  refine K2 _ ?_
  refine yS fun _ K3 => ?_
  refine yS fun _ K4 => ?_
  refine yR ?_
  refine yM rfl rfl ?_
  refine aa rfl (fb rfl rfl rfl) ?_
  refine yN ?_
  dsimp only [St.put]
  refine K4 _ ?_
  refine aq rfl (fun hc => ?_) (fun hc => ?_)
  ·exact absurd hc (by decide)
  obtain ⟨h0, hTB⟩ := sq hL
  obtain ⟨hok, _⟩ := ld h0
  have hnp := hok.np
  have hV : mj p = bp p.pages.length (f3 p) := by unfold mj; rw [hL, n7]
  refine ay ?_
  refine K3 _ ?_
  refine yS fun _ K5 => ?_
  refine yR ?_
  refine yA rfl rfl ?_
  refine yN ?_
  dsimp only [St.put]
  refine K5 _ ?_
  refine n5 6 3 1 rfl (by decide) ?_
  dsimp only [List.set_cons_zero, List.set_cons_succ]
  refine yS fun _ K6 => ?_
  refine yS fun _ K7 => ?_
  refine yR ?_
  refine yF rfl rfl rfl rfl ?_
  refine yL rfl rfl rfl ?_
  refine aa rfl (bn rfl rfl (List.length_map _)) ?_
  refine yM rfl rfl ?_
  refine yN ?_
  dsimp only [St.put]
  refine K7 _ ?_
  refine bf ?_
  refine ct 25 ?_
  refine zQ ?_
  refine c9 ((am (am G nx (.box (0 + 1) (cells (ge p (rmR p 0) (rmC p 0))))) (nx + 1) (.tip (bp 0 (f3 p)).length 3 1))) zX ?_
  dsimp only
  refine c8 (X := Nat) (fun i => i ≤ p.pages.length) (fun i => p.pages.length - i) (fun i => [(6, .list ((bp i (f3 p)).map cells) (.tip (nx + 1))), (7, .any), (8, .any), (9, .any), (24, .v (.int .i64 (i : Int)))]) (fun i G' => (am (am G nx (.box (i + 1) (cells (ge p (rmR p i) (rmC p i))))) (nx + 1) (.tip (bp i (f3 p)).length 3 1))) 0 rfl ?_ ?_ ?_ ?_ ?_ ?_
  ·exact Nat.zero_le _
  ·exact zF
  ·exact zX
  ·rintro i hI
   exact zL
  ·rintro i hI
   exact zH
  rintro i hI
  dsimp only at hI ⊢
  refine yS fun _ K8 => ?_
  refine yR ?_
  refine aa rfl (cn rfl rfl rfl) ?_
  refine yN ?_
  dsimp only [St.put]
  refine K8 _ ?_
  refine yS fun _ K9 => ?_
  refine aq rfl (fun hc => ?_) (fun hc => ?_)
  ·replace hc := of_decide_eq_true hc
   have hi : i < p.pages.length := by omega
   obtain ⟨x, hx⟩ : ∃ x, p.pages[i]? = some x := dm hi
   have hB := ua2 hok hTB (Nat.le_of_lt hi)
   have hP := zt hok hTB hi
   have hab := und hB i
   have hmb := uce hB
   have hln := gt i (f3 p)
   have hPn := hP.nn
   refine ay ?_
   refine K9 _ ?_
   refine yS fun _ K10 => ?_
   refine bf ?_
   refine yS fun _ K11 => ?_
   refine yR ?_
   refine yM rfl rfl ?_
   refine yA rfl rfl ?_
   refine yN ?_
   dsimp only [St.put]
   refine K11 _ ?_
   refine yS fun _ K12 => ?_
   refine g5 [(0, none), (2, none), (3, none), (1, none), (4, none), (5, none), (6, none)] (fun i => [4].contains i) (fun i => [1, 4].contains i) (fun i => [3, 5, 6].contains i) [nx] (by kernel_rfl) (by kernel_rfl) ?_
   try dsimp only [St.put]
   refine bd rfl rfl rfl rfl (i1 rfl rfl zG (by simp) (by rfl)) ?_
   try dsimp only [St.put]
   refine bd rfl rfl rfl rfl (i1 rfl rfl zG (by simp) (by rfl)) ?_
   refine xM rfl rfl rfl rfl rfl ?_
   refine jl ?_
   try dsimp only [St.put]
   refine j2 rfl rfl rfl (bc rfl rfl rfl (r9 p _ _ hok hB) ⟨zD, ?_⟩)
   try dsimp only [St.put]
   refine iv rfl rfl rfl rfl (bc rfl rfl rfl (ubp p (rmR p i) (rmC p i) i x hok hx) ?_)
   refine em rfl rfl rfl rfl (fp rfl (by constructor)) ?_
   refine em rfl rfl rfl rfl (fp rfl (by constructor)) ?_
   refine jk ?_
   dsimp only [St.put]
   refine K12 _ ?_
   refine yS fun _ K13 => ?_
   refine bf ?_
   refine ct 25 ?_
   refine zQ ?_
   refine c8 (X := Int) (fun n => FromTop p (rmR p i) (rmC p i) i n) (fun n => n.toNat) (fun n => [(9, .v (.int .i64 n))]) (fun n G' => G') ((bt p).alone (rmR p i) (rmC p i) i) rfl ?_ ?_ (fun _ _ h => h) ?_ ?_ ?_
   ·exact FromTop.start hP
   ·exact zF
   ·rintro n hI
    exact zL
   ·exact fun _ _ _ _ h => .inl h
   rintro n hF2
   dsimp only at hF2 ⊢
   have hF1 := hF2.1
   have hF3 := hF2.2.1
   have hBl := zf hB (by omega) hF2.2.1
   have hmb2 := uce hBl
   refine yS fun _ K14 => ?_
   refine yS fun _ K15 => ?_
   refine yR ?_
   refine yM rfl rfl ?_
   try dsimp only [St.put]
   refine ck rfl (i1 rfl rfl zG trivial (by rfl)) ?_
   refine yM rfl rfl ?_
   refine yM rfl rfl ?_
   try dsimp only [St.put]
   refine af rfl (bc rfl rfl rfl (xm p (rmR p i) (rmC p i) i x n hok hx (by have := hF2.1; have := hF2.2.1; omega) hB.r) ?_)
   try dsimp only [St.put]
   refine af rfl (bc rfl rfl rfl (r9 p _ _ hok (zf hB (by have := hF2.1; omega) hF2.2.1)) ?_)
   refine aa rfl (bx rfl rfl rfl (by omega)) ?_
   refine yM rfl rfl ?_
   refine aa rfl (cn rfl rfl rfl) ?_
   refine yN ?_
   dsimp only [St.put]
   refine K15 _ ?_
   refine aq rfl (fun hc => ?_) (fun hc => ?_)
   ·replace hc := of_decide_eq_true hc
    have hnot : ¬ (bt p).most (rmR p i) (rmC p i) ≤ n + (bt p).most ((bt p).lessR (rmR p i) i n) (ep (rmC p i) i) := by omega
    refine ay ?_
    refine K14 _ ?_
    refine bf ?_
    refine yR ?_
    refine yM rfl rfl ?_
    refine aa rfl (gh rfl rfl rfl (by omega)) ?_
    refine yA rfl rfl ?_
    refine yN ?_
    dsimp only [St.put]
    have hd := FromTop.down hP hF2 hnot
    have hd1 := hd.1
    exact ⟨n - 1, by omega, hd, ⟨⟨rfl, rfl⟩, zF, zB, zN, zX⟩⟩
   replace hc := of_decide_eq_false hc
   have hnw := FromTop.stop hP hF2 (by omega)
   rw [← zu] at hnw
   subst hnw
   refine c7 ?_
   refine K13 _ ?_
   refine yS fun _ K16 => ?_
   refine yR ?_
   try dsimp only [St.put]
   refine ck rfl (i1 rfl rfl zG trivial (by rfl)) ?_
   refine yM rfl rfl ?_
   refine yM rfl rfl ?_
   try dsimp only [St.put]
   refine af rfl (bc rfl rfl rfl (xm p (rmR p i) (rmC p i) i x (f3 p i) hok hx (by have := hF2.1; have := hF2.2.1; omega) hB.r) ?_)
   try dsimp only [St.put]
   refine af rfl (dj rfl rfl rfl zG rfl rfl (by rfl) ?_)
   refine yN ?_
   dsimp only [St.put]
   refine K16 _ ?_
   refine yR ?_
   refine yM rfl rfl ?_
   refine yM rfl rfl ?_
   try dsimp only [St.put]
   refine af rfl (b9 rfl rfl rfl (by decide) (by decide) zR (by decide) ?_)
   try dsimp only [St.put]
   refine af rfl (ce ([f3 p i]) rfl rfl zG zE rfl rfl zA ?_ zA)
   refine yA rfl rfl ?_
   refine yN ?_
   dsimp only [St.put]
   refine K10 _ ?_
   refine yR ?_
   refine aa rfl (bx rfl rfl rfl (by omega)) ?_
   refine yM rfl rfl ?_
   refine yN ?_
   dsimp only [St.put]
   have e := pg i (f3 p)
   rw [← e]
   exact ⟨i + 1, by omega, by omega, ⟨⟨rfl, rfl⟩, zF, zB, zN, zX⟩⟩
  replace hc := of_decide_eq_false hc
  obtain rfl : i = p.pages.length := by omega
  refine c7 ?_
  refine K6 _ ?_
  refine yS fun _ K17 => ?_
  refine yR ?_
  refine yM rfl rfl ?_
  refine yA rfl rfl ?_
  refine yA rfl rfl ?_
  refine yN ?_
  dsimp only [St.put]
  refine K17 _ ?_
  refine ax ?_
  refine g8 rfl (ed (by constructor)) (ed (by constructor)) zN zS ?_ ?_
  ·rw [hV]; exact zW
  rw [hL]; exact zW
 refine yR ?_
 refine yE rfl rfl rfl ?_
 try dsimp only [St.put]
 refine af rfl (ec rfl rfl rfl (nk n0 p) zG (by dsimp only [St.put]; omega) ?_)
 refine yX rfl rfl rfl rfl ?_
 refine yX rfl rfl rfl rfl ?_
 try dsimp only [St.put]
 refine af rfl (ec rfl rfl rfl (r8 n0 p (jq p) (cw p) o9 hL) zG (by dsimp only [St.put]; omega) ?_)
 refine yM rfl rfl ?_
 refine yX rfl rfl rfl rfl ?_
 refine yX rfl rfl rfl rfl ?_
 try dsimp only [St.put]
 refine af rfl (d7 rfl ?_)
 try dsimp only [St.put]
 refine af rfl (dj rfl rfl rfl zG rfl rfl (by rfl) ?_)
 refine yA rfl rfl ?_
 refine yN ?_
 dsimp only [St.put]
 refine K2 _ ?_
 refine yS fun _ K18 => ?_
 refine yS fun _ K19 => ?_
 refine yR ?_
 refine yM rfl rfl ?_
 refine aa rfl (fb rfl rfl rfl) ?_
 refine yN ?_
 dsimp only [St.put]
 refine K19 _ ?_
 refine aq rfl (fun hc => ?_) (fun hc => ?_)
 ·have hV : mj p = [] := by unfold mj; rw [lf hL]
  refine yS fun _ K20 => ?_
  refine yR ?_
  refine yM rfl rfl ?_
  refine yA rfl rfl ?_
  refine yA rfl rfl ?_
  refine yN ?_
  dsimp only [St.put]
  refine K20 _ ?_
  refine ax ?_
  refine g8 rfl (ed (by constructor)) (ed (by constructor)) zN zS ?_ ?_
  ·rw [hV]; exact zW
  exact zW
 exact absurd (ia hc) hL
end Go.Proofs.YtbbdginipiljdaaGreatDoor
namespace Go.Proofs.YtbbdginipiljdaaGreatDoor
set_option maxRecDepth 10000
open Go Go.RowKit Go.AB
open Go.AB.Enc (cells)
open Go.PB (az ai PlaceD bg bj bi bv aw ah cx br da dh)
set_option maxHeartbeats 1000000 in
theorem uhd (nF : Nat) (n : Nat) (hb : n ≤ 8) : we nF eo Tryz.prog 89 [.elem [.v (.int .i64 (n : Int))]] (2 ^ n) (fun s => [.v (.int .i64 (s : Int)), lst (cr n s)]) := by
 refine uc5 Tryz.func89 rfl rfl fun I hN hcl ok hG hn => ?_
 simp only [Tryz.ntmps89, List.length_cons, List.length_nil, Nat.reduceAdd, Nat.reduceSub]
 have h256 : 2 ^ n ≤ 2 ^ 8 := Nat.pow_le_pow_right (by omega) hb
 refine kh 2 ?_
 refine zQ ?_
 refine o5 ?_
 dsimp only [FC.st]
 refine ca fun hlt => ?_
 dsimp only at hlt
 refine i4 ?_
 try dsimp only [St.put]
 first | refine ck rfl (cm rfl rfl) ?_ | refine ck rfl (e8 rfl rfl (Enc.len _)) ?_ | refine ck rfl (e8 rfl rfl rfl) ?_ | refine ck rfl (fl rfl rfl zG trivial (by first | rfl | assumption)) ?_ | refine ck rfl (i1 rfl rfl zG trivial (by rfl)) ?_ | refine ck rfl (pi rfl rfl zG trivial (by simp)) ?_ | refine ck rfl (ku rfl rfl zG trivial (p5 (by assumption) rfl)) ?_ | refine ck rfl (ku rfl rfl zG trivial (by assumption)) ?_ | refine ck rfl (qj rfl rfl zG trivial rfl (by assumption) rfl (by decide)) ?_ | refine ck rfl (mp rfl rfl zG (by rfl)) ?_
 refine aa rfl (uw (n := n) rfl rfl rfl (by omega)) ?_
 refine aa rfl (gz rfl (by constructor)) ?_
 refine i5 ?_
 dsimp only [St.put]
 show j3 _ _ _ _ _ _ _
 refine o6 ok rfl ⟨rfl, rfl, zK, zN, zS, zK⟩ ?_
 refine qw ?_
 refine kh 9 ?_
 refine zQ ?_
 refine yp (X := Nat) (fun s => s ≤ 2 ^ n) (fun s => 2 ^ n - s) (fun s => [(3, .any), (4, .any), (5, .any), (8, .v (.int .i64 (s : Int)))]) (fun s => s) 0 rfl ?_ ?_ ?_ ?_ ?_
 ·exact Nat.zero_le _
 ·exact zF
 ·rfl
 ·rintro s hI
  exact zL
 ·rintro s hI
  dsimp only at hI ⊢
  refine kh 9 ?_
  refine zQ ?_
  refine o5 ?_
  dsimp only [FC.st]
  refine ca fun hlt => ?_
  dsimp only at hlt
  refine i4 ?_
  refine aa rfl (cn rfl rfl rfl) ?_
  refine i5 ?_
  dsimp only [St.put]
  show j3 _ _ _ _ _ _ _
  refine o6 ok rfl ⟨rfl, rfl, zK, zN, zS, zK⟩ ?_
  refine o4 fun K1 hK1 => ?_
  refine s8 rfl (fun hc => ?_) (fun hc => ?_)
  ·replace hc := of_decide_eq_true hc
   have hs : s < 2 ^ n := by omega
   refine s7 ?_
   refine hK1 _ _ ?_
   refine o4 fun K2 hK2 => ?_
   refine qw ?_
   refine kh 9 ?_
   refine zQ ?_
   refine o5 ?_
   dsimp only [FC.st]
   refine ca fun hlt => ?_
   dsimp only at hlt
   refine i4 ?_
   refine aa rfl (gz rfl (by constructor)) ?_
   refine aa rfl (fp rfl (by constructor)) ?_
   refine i5 ?_
   dsimp only [St.put]
   show j3 _ _ _ _ _ _ _
   refine vo ?_
   refine i4 ?_
   refine aa rfl (fp rfl (by constructor)) ?_
   refine i5 ?_
   dsimp only [St.put]
   show j3 _ _ _ _ _ _ _
   refine vo ?_
   refine n5 4 3 1 rfl (by decide) ?_
   dsimp only [List.set_cons_zero, List.set_cons_succ]
   refine qa fun K3 hK3 => ?_
   refine i4 ?_
   try dsimp only [St.put]
   first | refine ck rfl (cm rfl rfl) ?_ | refine ck rfl (e8 rfl rfl (Enc.len _)) ?_ | refine ck rfl (e8 rfl rfl rfl) ?_ | refine ck rfl (fl rfl rfl zG trivial (by first | rfl | assumption)) ?_ | refine ck rfl (i1 rfl rfl zG trivial (by rfl)) ?_ | refine ck rfl (pi rfl rfl zG trivial (by simp)) ?_ | refine ck rfl (ku rfl rfl zG trivial (p5 (by assumption) rfl)) ?_ | refine ck rfl (ku rfl rfl zG trivial (by assumption)) ?_ | refine ck rfl (qj rfl rfl zG trivial rfl (by assumption) rfl (by decide)) ?_ | refine ck rfl (mp rfl rfl zG (by rfl)) ?_
   refine aa rfl (gz rfl (by constructor)) ?_
   refine i5 ?_
   dsimp only [St.put]
   refine hK3 _ ?_
   refine bf ?_
   refine ct 13 ?_
   refine zQ ?_
   refine c9 ((am (I.G s) I.nx (.tip (cr 0 s).length 3 1))) zX ?_
   dsimp only
   refine c8 (X := Nat) (fun k => k ≤ n) (fun k => n - k) (fun k => [(4, .list ((cr k s).map cells) (.tip I.nx)), (5, .any), (12, .v (.int .i64 (k : Int)))]) (fun k G' => (am (I.G s) I.nx (.tip (cr k s).length 3 1))) 0 rfl ?_ ?_ ?_ ?_ ?_ ?_
   ·exact Nat.zero_le _
   ·exact zF
   ·exact zX
   ·rintro k hI
    exact zL
   ·rintro k hI
    exact zH
   ·rintro k hK
    dsimp only at hK ⊢
    refine qa fun K4 hK4 => ?_
    refine i4 ?_
    refine aa rfl (cn rfl rfl rfl) ?_
    refine i5 ?_
    dsimp only [St.put]
    refine hK4 _ ?_
    refine qa fun K5 hK5 => ?_
    refine aq rfl (fun hc => ?_) (fun hc => ?_)
    ·replace hc := of_decide_eq_true hc
     have hml := mw k s
     refine ay ?_
     refine hK5 _ ?_
     refine qa fun K6 hK6 => ?_
     refine bf ?_
     refine qa fun K7 hK7 => ?_
     refine i4 ?_
     refine aa rfl (gz rfl (by constructor)) ?_
     refine aa rfl (fp rfl (by constructor)) ?_
     refine i5 ?_
     dsimp only [St.put]
     refine hK7 _ ?_
     refine qa fun K8 hK8 => ?_
     refine i4 ?_
     refine aa rfl (gz rfl (by constructor)) ?_
     refine aa rfl (gz rfl (by constructor)) ?_
     refine aa rfl (uv (m := s) (n := k) rfl rfl rfl (by show k ≤ 64; omega) (by show (s : Int) ≤ 9223372036854775807; omega) (by decide)) ?_
     refine aa rfl (uz (m := s / 2 ^ k) rfl rfl rfl (Nat.lt_of_le_of_lt (Nat.div_le_self _ _) (by show s < 2 ^ 64; omega)) (by decide)) ?_
     refine aa rfl (fo rfl rfl rfl) ?_
     refine i5 ?_
     dsimp only [St.put]
     refine hK8 _ ?_
     refine aq rfl (fun hc => ?_) (fun hc => ?_)
     ·have hb1 : s.testBit k = true := bit_eq.1 (of_decide_eq_true hc)
      refine i4 ?_
      refine aa rfl (gz rfl (by constructor)) ?_
      refine aa rfl (gz rfl (by constructor)) ?_
      try dsimp only [St.put]
      refine af rfl (b9 rfl rfl rfl (by decide) (by decide) zR (by decide) ?_)
      try dsimp only [St.put]
      refine af rfl (ce ([(k : Int)]) rfl rfl zG zE rfl rfl zA ?_ zA)
      refine aa rfl (fp rfl (by constructor)) ?_
      refine i5 ?_
      dsimp only [St.put]
      refine hK6 _ ?_
      refine i4 ?_
      first | refine aa rfl (bx rfl rfl rfl (by omega)) ?_ | refine aa rfl (sg rfl rfl rfl) ?_
      refine aa rfl (gz rfl (by constructor)) ?_
      refine i5 ?_
      dsimp only [St.put]
      have e := u6 k s
      first
      | (have q : s.testBit k = true := hb1
         rw [q, cond_true] at e
         rw [← e]
         exact ⟨k + 1, by omega, by omega, ⟨⟨rfl, rfl⟩, zF, zB, zN, zX⟩⟩)
      | (have q : s.testBit k = false := hb0
         rw [q, cond_false, List.append_nil] at e
         rw [← e]
         exact ⟨k + 1, by omega, by omega, ⟨⟨rfl, rfl⟩, zF, zB, zN, zX⟩⟩)
     ·have hb0 : s.testBit k = false := by
       have := of_decide_eq_false hc
       rw [bit_eq, Bool.not_eq_true] at this
       exact this
      refine ay ?_
      refine hK6 _ ?_
      refine i4 ?_
      first | refine aa rfl (bx rfl rfl rfl (by omega)) ?_ | refine aa rfl (sg rfl rfl rfl) ?_
      refine aa rfl (gz rfl (by constructor)) ?_
      refine i5 ?_
      dsimp only [St.put]
      have e := u6 k s
      first
      | (have q : s.testBit k = true := hb1
         rw [q, cond_true] at e
         rw [← e]
         exact ⟨k + 1, by omega, by omega, ⟨⟨rfl, rfl⟩, zF, zB, zN, zX⟩⟩)
      | (have q : s.testBit k = false := hb0
         rw [q, cond_false, List.append_nil] at e
         rw [← e]
         exact ⟨k + 1, by omega, by omega, ⟨⟨rfl, rfl⟩, zF, zB, zN, zX⟩⟩)
    ·replace hc := of_decide_eq_false hc
     obtain rfl : k = n := by omega
     refine vz 4 (lst (cr k s)) rfl Wk.tok ?_
     refine c7 ?_
     show j3 _ _ _ _ _ _ _
     refine o6 ok rfl ⟨rfl, rfl, zK, zN, zS, zK⟩ ?_
     refine o4 fun K9 hK9 => ?_
     refine ude ?_
     refine p4 rfl (gz rfl (by constructor)) ?_
     refine p4 rfl (gz rfl (by constructor)) ?_
     refine p4 rfl (gz rfl (by constructor)) ?_
     try dsimp only [St.put]
     refine udh ok (by rw [hN]; exact hs) rfl rfl rfl rfl (by rw [hcl]; rfl) ?_
     refine p4 rfl (dw rfl rfl) ?_
     refine udi ?_
     dsimp only [St.put]
     refine hK9 _ _ ?_
     refine s8 rfl (fun h => by cases h) (fun _ => ?_)
     refine s7 ?_
     refine hK2 _ _ ?_
     refine kh 9 ?_
     refine zQ ?_
     refine yo ok rfl ?_
     dsimp only [FC.st]
     refine ca fun hlt => ?_
     dsimp only at hlt
     refine i4 ?_
     first | refine aa rfl (bx rfl rfl rfl (by omega)) ?_ | refine aa rfl (sg rfl rfl rfl) ?_
     refine aa rfl (gz rfl (by constructor)) ?_
     refine i5 ?_
     dsimp only [St.put]
     refine ⟨⟨rfl, rfl, zK, zN, zS, zK⟩, ?_⟩
     exact ⟨s + 1, by omega, by omega, rfl, ⟨⟨rfl, rfl⟩, zF, zB, zN, zX⟩⟩
  ·replace hc := of_decide_eq_false hc
   obtain rfl : s = 2 ^ n := by omega
   refine yq ?_
   exact ⟨.inl rfl, rfl⟩
end Go.Proofs.YtbbdginipiljdaaGreatDoor
namespace Go.AB
open Go Go.RowKit
open Go.AB.Enc (cells)
open Go.PB (az ai PlaceD bg bj bi bv aw ah cx br da dh)
theorem um2 {so : Nat → Bool} {n k : Nat} : ((ff so n k).getD []).length ≤ n := by
 rcases tg so n k with ⟨h, _⟩ | ⟨b, h, k⟩
 ·rw [h]; exact Nat.zero_le _
 rw [h]
 obtain ⟨s, _, _, rfl⟩ := k.get
 exact mw n s
theorem um0 {so : Nat → Bool} {n k : Nat} (h : so k = false) : ff so n (k + 1) = ff so n k := by
 cases hb : ff so n k with
 | none => rw [uer hb, h]; rfl
 | some b => rw [zb hb, h]; rfl
theorem um3 {so : Nat → Bool} {n k : Nat} (hb : ff so n k = none) (h : so k = true) : ff so n (k + 1) = some (cr n k) := by rw [uer hb, h]; rfl
theorem um1 {so : Nat → Bool} {n k : Nat} {b : List Int} (hb : ff so n k = some b) (h : so k = true) : ff so n (k + 1) = bif g4 (cr n k) b then some (cr n k) else some b := by rw [zb hb, h]; rfl
theorem uaa {α : Type} {l : List α} {k : Nat} {x : α} (h : l[k]? = some x) : l.take (k + 1) = l.take k ++ [x] := by rw [List.take_add_one, h]; rfl
theorem uf2 (p : ah) (l : List Int) (z : Int) : nd p (l ++ [z]) = nd p l ++ bif decide (z < (p.firsts.length : Int)) then [z] else [] := by
 unfold nd
 rw [List.filter_append]
 cases h : decide (z < (p.firsts.length : Int)) <;> simp [h]
theorem ufz (p : ah) (l : List Int) (z : Int) : mn p (l ++ [z]) = mn p l ++ bif decide (z < (p.firsts.length : Int)) then [] else [z - (p.firsts.length : Int)] := by
 unfold mn
 rw [List.filter_append, List.map_append]
 cases h : decide (z < (p.firsts.length : Int)) <;> simp [h]
theorem uf3 (p : ah) (l : List Int) : (nd p l).length ≤ l.length := List.length_filter_le _ _
theorem uf0 (p : ah) (l : List Int) : (mn p l).length ≤ l.length := by
 unfold mn
 rw [List.length_map]
 exact List.length_filter_le _ _
theorem uf1 {p : ah} {z : Int} (h : z ∈ ig p) : 0 ≤ z ∧ z < (ci p : Int) := by
 unfold ig j1 at h
 rcases tg (qg p) (ci p) (2 ^ ci p) with ⟨q, _⟩ | ⟨b, q, k⟩
 ·rw [q] at h; cases h
 rw [q] at h
 obtain ⟨s, _, _, rfl⟩ := k.get
 obtain ⟨i, rfl, hi, _⟩ := membersL_mem.1 h
 omega
end Go.AB
namespace Go.Proofs.YtbbdginipiljdaaGreatDoor
set_option maxRecDepth 10000
open Go.RowKit Go.AB
open Go.AB.Enc (cells)
open Go.PB (az ai PlaceD bg bj bi bv aw ah cx br da dh)
end Go.Proofs.YtbbdginipiljdaaGreatDoor
namespace Go.AB
open Go Go.RowKit
open Go.AB.Enc (cells)
open Go.PB (az ai PlaceD bg bj bi bv aw ah cx br da dh)
theorem umz {so : Nat → Bool} {n k : Nat} {b : List Int} (hb : ff so n k = some b) (h : g4 (cr n k) b = false) : ff so n (k + 1) = some b := by rw [zb hb, h, Bool.and_false]; rfl
theorem ueu {p : ah} {R C : Nat → Int} (h : Bd p R C) (l : List Int) : Bd p R (g6 C l) := ⟨h.r, fun j => by
 have := h.c j
 unfold g6
 cases decide ((j : Int) ∈ l)
 ·exact this
 exact ⟨Int.le_refl _, by show (0 : Int) ≤ 1000000; omega⟩, h.nr, h.np⟩
theorem umn {p : ah} {m : Int} (h : cw p ≠ 0) : i3 p m = cw p := by unfold i3; rw [decide_eq_false h]; rfl
theorem umm {p : ah} {m : Int} (h : cw p = 0) (hm : m < 0) : i3 p m = 2 := by unfold i3; rw [decide_eq_true h, decide_eq_true hm]; rfl
theorem uei {p : ah} {m : Int} (h : cw p = 0) (hm : ¬ m < 0) (ht : gm p = false) : i3 p m = 8 := by unfold i3; rw [decide_eq_true h, decide_eq_false hm, ht]; rfl
theorem ueh {p : ah} {m : Int} (h : cw p = 0) (hm : ¬ m < 0) (ht : gm p = true) : i3 p m = 0 := by unfold i3; rw [decide_eq_true h, decide_eq_false hm, ht]; rfl
end Go.AB
namespace Go.Proofs.YtbbdginipiljdaaGreatDoor
set_option maxRecDepth 10000
open Go.RowKit Go.AB
open Go.AB.Enc (cells)
open Go.PB (az ai PlaceD bg bj bi bv aw ah cx br da dh)
end Go.Proofs.YtbbdginipiljdaaGreatDoor
namespace Go.AB
open Go Go.RowKit
open Go.AB.Enc (cells)
open Go.PB (az ai PlaceD bg bj bi bv aw ah cx br da dh)
/-- whether a set is taken, and how often one was -/
def kp (so : Nat → Bool) (n k : Nat) : Bool := so k && match ff so n k with
 | none => true
 | some b => g4 (cr n k) b
def lv (so : Nat → Bool) (n : Nat) : Nat → Nat
 | 0 => 0
 | k + 1 => lv so n k + (kp so n k).toNat
theorem wu {so : Nat → Bool} {n k : Nat} (h : kp so n k = true) : ff so n (k + 1) = some (cr n k) ∧ lv so n (k + 1) = lv so n k + 1 := by
 refine ⟨?_, by show lv so n k + (kp so n k).toNat = _; rw [h]; rfl⟩
 unfold kp at h
 rw [Bool.and_eq_true] at h
 cases hb : ff so n k with
 | none => exact um3 hb h.1
 | some b =>
  have h2 := h.2
  rw [hb] at h2
  have h3 : g4 (cr n k) b = true := h2
  rw [um1 hb h.1, h3]; rfl
theorem ww {so : Nat → Bool} {n k : Nat} (h : kp so n k = false) : ff so n (k + 1) = ff so n k ∧ lv so n (k + 1) = lv so n k := by
 refine ⟨?_, by show lv so n k + (kp so n k).toNat = _; rw [h]; rfl⟩
 unfold kp at h
 cases hs : so k
 ·exact um0 hs
 rw [hs, Bool.true_and] at h
 cases hb : ff so n k with
 | none => rw [hb] at h; cases h
 | some b =>
  rw [hb] at h
  have h3 : g4 (cr n k) b = false := h
  rw [umz hb h3]
theorem ugi {so : Nat → Bool} {n k : Nat} (h : so k = false) : kp so n k = false := by unfold kp; rw [h]; rfl
theorem ugj {so : Nat → Bool} {n k : Nat} (h : so k = true) (hb : ff so n k = none) : kp so n k = true := by unfold kp; rw [h, hb]; rfl
theorem t7 {so : Nat → Bool} {n k : Nat} {b : List Int} (h : so k = true) (hb : ff so n k = some b) : kp so n k = g4 (cr n k) b := by unfold kp; rw [h, hb]; rfl
end Go.AB
namespace Go.Proofs.YtbbdginipiljdaaGreatDoor
set_option maxRecDepth 10000
open Go Go.RowKit Go.AB
open Go.AB.Enc (cells)
open Go.PB (az ai PlaceD bg bj bi bv aw ah cx br da dh)
theorem uar (m : Nat) : Pure Tryz.prog 54 [.v (.int .i64 (m : Int))] (.fn (.func 89) [.elem [.v (.int .i64 (m : Int))]]) := by
 refine c6 Tryz.func54 rfl (fun m => (.fn (cp (.elem (cp .v dn)) dn))) fun G nx => ?_
 simp only [Tryz.ntmps54, List.length_cons, List.length_nil, Nat.reduceAdd, Nat.reduceSub]
 refine ca fun hlt => ?_
 dsimp only at hlt
 refine yS fun _ K1 => ?_
 refine yR ?_
 try dsimp only [St.put]
 refine yB rfl rfl rfl ?_
 refine yA rfl rfl ?_
 refine yN ?_
 dsimp only [St.put]
 refine K1 _ ?_
 refine yS fun _ K2 => ?_
 refine yR ?_
 refine aa rfl (pt rfl rfl) ?_
 refine yA rfl rfl ?_
 refine yN ?_
 dsimp only [St.put]
 refine K2 _ ?_
 refine ax ?_
 refine bh rfl (by constructor) zN zS ?_
 rfl
set_option maxHeartbeats 1000000 in
theorem udp (n : Nat) (m : Nat) (so : Nat → Bool) (k0 : FuncId) (caps : List C) [Fun Tryz.prog k0] (hm : m ≤ 8) (hcl : ∀ N, ∀ c ∈ caps, C.low N c) (hso : ∀ s : Nat, s < 2 ^ m → AB.Pure Tryz.prog k0 (.v (.int .i64 (s : Int)) :: lst (cr m s) :: caps) (.v (.bool (so s)))) : et n eo Tryz.prog 53 [.fn (.func 89) [.elem [.v (.int .i64 (m : Int))]], .fn (.func k0) caps, .fn (.func 57) []] (lst (j1 so m)) := fun G nx hF hnx => by
 refine ii (G) (nx) Tryz.func53 rfl ((bz _ _)) zN (fun hlt => zH) ?_
 simp only [Tryz.ntmps53, List.length_cons, List.length_nil, Nat.reduceAdd, Nat.reduceSub]
 refine ca fun hlt => ?_
 dsimp only at hlt
 refine yS fun _ K1 => ?_
 refine yR ?_
 try dsimp only [St.put]
 refine yB rfl rfl rfl ?_
 try dsimp only [St.put]
 refine yB rfl rfl rfl ?_
 refine yA rfl rfl ?_
 refine yN ?_
 dsimp only [St.put]
 refine K1 _ ?_
 refine yS fun _ K2 => ?_
 refine yR ?_
 try dsimp only [St.put]
 refine af rfl (d7 rfl ?_)
 refine yN ?_
 dsimp only [St.put]
 refine K2 _ ?_
 refine yS fun _ K3 => ?_
 refine yR ?_
 try dsimp only [St.put]
 refine af rfl (d7 rfl ?_)
 try dsimp only [St.put]
 refine af rfl (dj rfl rfl rfl zG rfl rfl (by rfl) ?_)
 refine yN ?_
 dsimp only [St.put]
 refine K3 _ ?_
 refine yS fun _ K4 => ?_
 refine yS fun _ K5 => ?_
 refine v6 nx 0 [lst ([] : List Int)] zG zW ?_
 refine yR ?_
 refine yM rfl rfl ?_
 refine yN ?_
 dsimp only [St.put]
 refine K5 _ ?_
 refine bf ?_
 refine ct 12 ?_
 refine zQ ?_
 refine c9 ((am (am G nx (.box (lv so m 0) [lst ((ff so m 0).getD [])])) (nx + 1) (.box (1 + lv so m 0) [.v (.bool (ff so m 0).isSome)]))) zX ?_
 dsimp only
 refine uew [12, 13] (fun k => (am (am G nx (.box (lv so m k) [lst ((ff so m k).getD [])])) (nx + 1) (.box (1 + lv so m k) [.v (.bool (ff so m k).isSome)]))) (fun k => [(13, lst (cr m k)), (12, .v (.int .i64 (k : Int)))]) (uhd n m hm) (fun k => zG) (by (try dsimp only); omega) rfl rfl (fun _ => rfl) ?_ ?_ ?_ (fun lr k hrk => ?_) ?_
 ·intro k
  rfl
 ·exact zX
 ·intro k
  exact zH
 ·have hbl := um2 (so := so) (n := m) (k := k)
  have hml := mw m k
  refine yS fun _ K6 => ?_
  refine yR ?_
  refine yA rfl rfl ?_
  refine yN ?_
  dsimp only [St.put]
  refine K6 _ ?_
  refine yR ?_
  refine yA rfl rfl ?_
  refine yN ?_
  dsimp only [St.put]
  show AW _ _ _ _ _
  refine bf ?_
  refine yS fun _ K7 => ?_
  refine yR ?_
  refine yL rfl rfl rfl ?_
  refine yM rfl rfl ?_
  refine yM rfl rfl ?_
  try dsimp only [St.put]
  refine af rfl (bc rfl rfl rfl (hso k hrk) ?_)
  refine yM rfl rfl ?_
  refine ey (fun hs => ?_) (fun hs => ?_)
  ·have hw : so k = true := hs
   try dsimp only [St.put]
   refine ck rfl (fl rfl rfl zG trivial (by first | rfl | assumption)) ?_
   refine aa rfl (dw rfl rfl) ?_
   refine yM rfl rfl ?_
   refine ey (fun hs => ?_) (fun hs => ?_)
   ·have hb0 : ff so m k = none := by simpa using hs
    have htk := wu (ugj hw hb0)
    refine yK rfl ?_
    refine yK rfl ?_
    refine yK rfl ?_
    refine yK rfl ?_
    refine yK rfl ?_
    refine aa rfl (cg rfl rfl (by constructor)) ?_
    refine aa rfl (cg rfl rfl (by constructor)) ?_
    refine yN ?_
    dsimp only [St.put]
    refine K7 _ ?_
    refine aq rfl (fun _ => ?_) (fun h => by cases h)
    first
    | (have hbf : g4 (cr m k) b = true := (uf _ _).symm.trans hc
       have htk := wu ((t7 hw hb0).trans hbf))
    | skip
    refine yR ?_
    refine yM rfl rfl ?_
    try dsimp only [St.put]
    refine af rfl (dj rfl rfl rfl zG rfl rfl (by rfl) ?_)
    try dsimp only [St.put]
    refine af rfl (dj rfl rfl rfl zG rfl rfl (by rfl) ?_)
    refine yN ?_
    dsimp only [St.put]
    dsimp only [ri, tn]
    first
    | (rw [htk.1, htk.2]
       exact zX)
    | (rw [hke.1, hke.2]
       try rw [hb0]
       exact zX)
   obtain ⟨b, hb0⟩ : ∃ b, ff so m k = some b := by
     cases hb : ff so m k with
     | none => rw [hb] at hs; cases hs
     | some b => exact ⟨b, rfl⟩
   rw [hb0] at hbl
   rw [hb0]
   have hbl2 : b.length ≤ m := hbl
   refine yL rfl rfl rfl ?_
   refine yM rfl rfl ?_
   try dsimp only [St.put]
   refine ck rfl (fl rfl rfl zG trivial (by first | rfl | assumption)) ?_
   try dsimp only [St.put]
   refine af rfl (bc rfl rfl rfl (uis (cr m k) b (by omega) (by omega)) ?_)
   refine aa rfl (cn rfl rfl rfl) ?_
   refine aa rfl (cy rfl rfl (by constructor)) ?_
   refine aa rfl (cg rfl rfl (by constructor)) ?_
   refine yN ?_
   dsimp only [St.put]
   refine K7 _ ?_
   refine aq rfl (fun hc => ?_) (fun hc => ?_)
   ·first
    | (have hbf : g4 (cr m k) b = true := (uf _ _).symm.trans hc
       have htk := wu ((t7 hw hb0).trans hbf))
    | skip
    refine yR ?_
    refine yM rfl rfl ?_
    try dsimp only [St.put]
    refine af rfl (dj rfl rfl rfl zG rfl rfl (by rfl) ?_)
    try dsimp only [St.put]
    refine af rfl (dj rfl rfl rfl zG rfl rfl (by rfl) ?_)
    refine yN ?_
    dsimp only [St.put]
    dsimp only [ri, tn]
    first
    | (rw [htk.1, htk.2]
       exact zX)
    | (rw [hke.1, hke.2]
       try rw [hb0]
       exact zX)
   first
   | (have hbf : g4 (cr m k) b = false := (uf _ _).symm.trans hc
      have hke := ww ((t7 hw hb0).trans hbf))
   | skip
   refine ay ?_
   dsimp only [ri, tn]
   first
   | (rw [htk.1, htk.2]
      exact zX)
   | (rw [hke.1, hke.2]
      try rw [hb0]
      exact zX)
  have hw : so k = false := hs
  have hke := ww (ugi (n := m) hw)
  refine yK rfl ?_
  refine yK rfl ?_
  refine yK rfl ?_
  refine yK rfl ?_
  refine yK rfl ?_
  refine yK rfl ?_
  refine yK rfl ?_
  refine yK rfl ?_
  refine yK rfl ?_
  refine aa rfl (cy rfl rfl (by constructor)) ?_
  refine yN ?_
  dsimp only [St.put]
  refine K7 _ ?_
  refine aq rfl (fun h => by cases h) (fun _ => ?_)
  first
  | (have hbf : g4 (cr m k) b = false := (uf _ _).symm.trans hc
     have hke := ww ((t7 hw hb0).trans hbf))
  | skip
  refine ay ?_
  dsimp only [ri, tn]
  first
  | (rw [htk.1, htk.2]
     exact zX)
  | (rw [hke.1, hke.2]
     try rw [hb0]
     exact zX)
 dsimp only
 refine K4 _ ?_
 refine yS fun _ K8 => ?_
 refine yR ?_
 try dsimp only [St.put]
 refine ck rfl (fl rfl rfl zG trivial (by first | rfl | assumption)) ?_
 refine yA rfl rfl ?_
 refine yN ?_
 dsimp only [St.put]
 refine K8 _ ?_
 refine ax ?_
 refine bh rfl (by constructor) zN zS ?_
 rfl
theorem uip (p : ah) (R C : Nat → Int) (a : Int) (s : Nat) (l : List Int) (h : dv p) (hB : Bd p R C) (hs : s ≤ 1000) : Pure Tryz.prog 55 [.v (.int .i64 (s : Int)), lst l, .elem (cells (ge p R C)), .elem [.v (.int .i64 a)]] (.v (.bool (decide ((bt p).f R C (fun i => s.testBit i) = a)))) := by
 refine c6 Tryz.func55 rfl (fun m => .v) fun G nx => ?_
 simp only [Tryz.ntmps55, List.length_cons, List.length_nil, Nat.reduceAdd, Nat.reduceSub]
 refine ca fun hlt => ?_
 dsimp only at hlt
 refine yS fun _ K1 => ?_
 refine yR ?_
 refine yA rfl rfl ?_
 refine yN ?_
 dsimp only [St.put]
 refine K1 _ ?_
 refine yS fun _ K2 => ?_
 refine g5 [(0, none), (1, none), (3, none), (2, none), (4, none), (5, none)] (fun i => [].contains i) (fun i => [2].contains i) (fun i => [1, 4, 5].contains i) [] (by kernel_rfl) (by kernel_rfl) ?_
 try dsimp only [St.put]
 refine bd rfl rfl rfl rfl (e8 rfl rfl (Enc.len _)) ?_
 refine xM rfl rfl rfl rfl rfl ?_
 try dsimp only [St.put]
 refine bd rfl rfl rfl rfl (cm rfl rfl) ?_
 refine jl ?_
 try dsimp only [St.put]
 refine j2 rfl rfl rfl (bc rfl rfl rfl (ubo p R C s h hB hs) ⟨zD, ?_⟩)
 refine em rfl rfl rfl rfl (fo rfl rfl rfl) ?_
 refine em rfl rfl rfl rfl (fp rfl (by constructor)) ?_
 refine jk ?_
 dsimp only [St.put]
 refine K2 _ ?_
 refine ax ?_
 refine bh rfl (by constructor) zN zS ?_
 rfl
theorem uiz (p : ah) (m : Int) (s : Int) (l : List Int) (h : dv p) (hl : l.length ≤ 1000) (hm : ∀ z ∈ l, 0 ≤ z ∧ z < (p.pages.length : Int)) : Pure Tryz.prog 78 [.v (.int .i64 s), lst l, .elem (cells (ge p (c5 p) (dg p))), .elem [.v (.int .i64 m)]] (.v (.bool (decide (ju p l ≤ m)))) := by
 refine c6 Tryz.func78 rfl (fun m => .v) fun G nx => ?_
 simp only [Tryz.ntmps78, List.length_cons, List.length_nil, Nat.reduceAdd, Nat.reduceSub]
 refine ca fun hlt => ?_
 dsimp only at hlt
 refine yS fun _ K1 => ?_
 refine yR ?_
 refine yA rfl rfl ?_
 refine yN ?_
 dsimp only [St.put]
 refine K1 _ ?_
 refine yS fun _ K2 => ?_
 refine yR ?_
 refine yE rfl rfl rfl ?_
 try dsimp only [St.put]
 refine af rfl (d7 rfl ?_)
 try dsimp only [St.put]
 refine af rfl (dj rfl rfl rfl zG rfl rfl (by rfl) ?_)
 refine yN ?_
 dsimp only [St.put]
 rw [show cells (ge p (c5 p) (dg p)) = cells (ge p (c5 p) (g6 (dg p) (l.take 0))) by rw [List.take_zero, ufg]]
 refine K2 _ ?_
 refine yS fun _ K3 => ?_
 refine yS fun _ K4 => ?_
 refine yR ?_
 refine yM rfl rfl ?_
 refine aa rfl (bn rfl rfl (List.length_map _)) ?_
 refine yM rfl rfl ?_
 refine yN ?_
 dsimp only [St.put]
 refine K4 _ ?_
 refine bf ?_
 refine ct 14 ?_
 refine zQ ?_
 refine c9 ((am G nx (.box (0 + 1) (cells (ge p (c5 p) (g6 (dg p) (l.take 0))))))) zX ?_
 dsimp only
 refine c8 (X := Nat) (fun k => k ≤ l.length) (fun k => l.length - k) (fun k => [(8, .any), (9, .any), (13, .v (.int .i64 (k : Int)))]) (fun k G' => (am G nx (.box (k + 1) (cells (ge p (c5 p) (g6 (dg p) (l.take k))))))) 0 rfl ?_ ?_ ?_ ?_ ?_ ?_
 ·exact Nat.zero_le _
 ·exact zF
 ·exact zX
 ·rintro k hI
  exact zL
 ·rintro k hI
  exact zH
 rintro k hI
 dsimp only at hI ⊢
 refine yS fun _ K5 => ?_
 refine yR ?_
 refine aa rfl (cn rfl rfl rfl) ?_
 refine yN ?_
 dsimp only [St.put]
 refine K5 _ ?_
 refine yS fun _ K6 => ?_
 refine aq rfl (fun hc => ?_) (fun hc => ?_)
 ·replace hc := of_decide_eq_true hc
  obtain ⟨z0, hz0⟩ : ∃ z, l[k]? = some z := dm (by omega)
  have hzb := hm z0 (fy hz0)
  obtain ⟨j, rfl⟩ : ∃ j : Nat, z0 = (j : Int) := ⟨z0.toNat, by omega⟩
  have hz := hz0
  obtain ⟨x, hx⟩ : ∃ x, p.pages[j]? = some x := dm (by omega)
  have hB := ueu (th h) (l.take k)
  refine ay ?_
  refine K6 _ ?_
  refine yS fun _ K7 => ?_
  refine bf ?_
  refine yS fun _ K8 => ?_
  refine yR ?_
  refine aa rfl (bw rfl rfl rfl rfl (bu (by assumption)) (Enc.len _)) ?_
  refine yL rfl rfl rfl ?_
  refine yA rfl rfl ?_
  refine yN ?_
  dsimp only [St.put]
  refine K8 _ ?_
  refine yR ?_
  try dsimp only [St.put]
  refine ck rfl (i1 rfl rfl zG trivial (by rfl)) ?_
  refine yM rfl rfl ?_
  try dsimp only [St.put]
  refine af rfl (bc rfl rfl rfl (xm p (c5 p) (g6 (dg p) (l.take k)) j x 0 h hx (by omega) hB.r) ?_)
  try dsimp only [St.put]
  refine af rfl (dj rfl rfl rfl zG rfl rfl (by rfl) ?_)
  refine yN ?_
  dsimp only [St.put]
  refine K7 _ ?_
  refine yR ?_
  refine aa rfl (bx rfl rfl rfl (by omega)) ?_
  refine yM rfl rfl ?_
  refine yN ?_
  dsimp only [St.put]
  rw [ukg, ← uff, ← uaa hz]
  exact ⟨k + 1, by omega, by omega, ⟨⟨rfl, rfl⟩, zF, zB, zN, zX⟩⟩
 replace hc := of_decide_eq_false hc
 rw [f5 (show l.length ≤ k by omega)]
 refine c7 ?_
 refine K3 _ ?_
 refine yS fun _ K9 => ?_
 refine g5 [(0, none), (2, none), (1, none), (3, none), (4, none)] (fun i => [].contains i) (fun i => [1].contains i) (fun i => [3, 4].contains i) [nx] (by kernel_rfl) (by kernel_rfl) ?_
 try dsimp only [St.put]
 refine bd rfl rfl rfl rfl (i1 rfl rfl zG (by simp) (by rfl)) ?_
 try dsimp only [St.put]
 refine bd rfl rfl rfl rfl (cm rfl rfl) ?_
 refine jl ?_
 try dsimp only [St.put]
 refine j2 rfl rfl rfl (bc rfl rfl rfl (r9 p (c5 p) (g6 (dg p) l) h (ueu (th h) l)) ⟨zD, ?_⟩)
 refine em rfl rfl rfl rfl (ox rfl rfl rfl) ?_
 refine em rfl rfl rfl rfl (fp rfl (by constructor)) ?_
 refine jk ?_
 dsimp only [St.put]
 refine K9 _ ?_
 refine ax ?_
 refine bh rfl (by constructor) zN zS ?_
 rfl
theorem ua4 (p : ah) (R Q : Nat → Int) (a : Int) (N : Nat) : ∀ c ∈ [C.elem (cells (ge p R Q)), C.elem [C.v (.int .i64 a)]], C.low N c := cp (fk _ _) (cp (.elem (cp .v dn)) dn)
set_option maxHeartbeats 1000000 in
theorem uio (n : Nat) (p : ah) : et n eo Tryz.prog 17 [val p] (.tup [lst (atE (fh p (cw p)) [] (nd p (ig p))), lst (atE (fh p (cw p)) [] (mn p (ig p))), .v (.int .i64 (fh p (cw p)))]) := fun G nx hF hnx => by
 refine ii (G) (nx) Tryz.func17 rfl (.tup (cp (bz _ _) (cp (bz _ _) (cp .v dn)))) zN (fun hlt => zH) ?_
 simp only [Tryz.ntmps17, List.length_cons, List.length_nil, Nat.reduceAdd, Nat.reduceSub]
 refine ca fun hlt => ?_
 dsimp only at hlt
 refine yS fun _ K1 => ?_
 refine yR ?_
 try dsimp only [St.put]
 refine yB rfl rfl rfl ?_
 refine yA rfl rfl ?_
 refine yA rfl rfl ?_
 refine yA rfl rfl ?_
 refine yN ?_
 dsimp only [St.put]
 refine K1 _ ?_
 refine yS fun _ K2 => ?_
 by_cases hL : fh p (cw p) = 0
 ·refine yR ?_
  refine yE rfl rfl rfl ?_
  try dsimp only [St.put]
  refine af rfl (ec rfl rfl rfl (nk n p) zG (by dsimp only [St.put]; omega) ?_)
  refine yX rfl rfl rfl rfl ?_
  refine yX rfl rfl rfl rfl ?_
  try dsimp only [St.put]
  refine af rfl (ec rfl rfl rfl (r7 n p (jq p) (cw p) o9 hL) zG (by dsimp only [St.put]; omega) ?_)
  refine yM rfl rfl ?_
  refine yX rfl rfl rfl rfl ?_
  refine yX rfl rfl rfl rfl ?_
  try dsimp only [St.put]
  refine af rfl (d7 rfl ?_)
  try dsimp only [St.put]
  refine af rfl (dj rfl rfl rfl zG rfl rfl (by rfl) ?_)
  refine yA rfl rfl ?_
  refine yN ?_
  dsimp only [St.put]
  refine K2 _ ?_
  refine yS fun _ K3 => ?_
  refine yS fun _ K4 => ?_
  refine yR ?_
  refine yM rfl rfl ?_
  refine aa rfl (fb rfl rfl rfl) ?_
  refine yN ?_
  dsimp only [St.put]
  refine K4 _ ?_
  refine aq rfl (fun hc => ?_) (fun hc => ?_)
  ·exact absurd hc (by decide)
  obtain ⟨h0, hTB⟩ := sq hL
  obtain ⟨hok, _⟩ := ld h0
  have hn1 := hok.nf
  have hn2 := hok.ns
  have hnr : ci p = p.firsts.length + p.seconds.length := rfl
  have hl1 := gt (ci p) (c5 p)
  have hB := th hok
  have h64 : 2 ^ ci p ≤ 2 ^ 6 := Nat.pow_le_pow_right (by omega) (by omega)
  have hwl : (ig p).length ≤ 6 := by
   have := ues (qg p) (ci p)
   show (j1 (qg p) (ci p)).length ≤ 6
   omega
  refine ay ?_
  refine K3 _ ?_
  refine yS fun _ K5 => ?_
  refine yR ?_
  try dsimp only [St.put]
  refine ck rfl (i1 rfl rfl zG trivial (by rfl)) ?_
  try dsimp only [St.put]
  refine af rfl (bc rfl rfl rfl (r9 p (c5 p) (dg p) hok hB) ?_)
  try dsimp only [St.put]
  refine af rfl (d7 rfl ?_)
  try dsimp only [St.put]
  refine af rfl (dj rfl rfl rfl zG rfl rfl (by rfl) ?_)
  refine yN ?_
  dsimp only [St.put]
  refine K5 _ ?_
  refine gp (i := 5) rfl zG zC ?_
  refine gp (i := 6) rfl zG zC ?_
  dsimp only
  refine yS fun _ K6 => ?_
  refine yS fun _ K7 => ?_
  refine yR ?_
  refine yF rfl rfl rfl rfl ?_
  refine yL rfl rfl rfl ?_
  refine aa rfl (bn rfl rfl (List.length_map _)) ?_
  try dsimp only [St.put]
  refine af rfl (bc rfl rfl rfl (uar (bp (ci p) (c5 p)).length) ?_)
  refine aa rfl (pt rfl rfl) ?_
  try dsimp only [St.put]
  refine af rfl (ec rfl rfl rfl (udp n (bp (ci p) (c5 p)).length (qg p) 55 [.elem (cells (ge p (c5 p) (dg p))), .elem [.v (.int .i64 ((bt p).most (c5 p) (dg p)))]] (by rw [hl1]; omega) (ua4 p _ _ _) (fun s hs => uip p (c5 p) (dg p) _ s _ hok hB (by rw [hl1] at hs; omega))) zG (by dsimp only [St.put]; omega) ?_)
  refine aa rfl (bn rfl rfl (List.length_map _)) ?_
  refine yM rfl rfl ?_
  refine yN ?_
  dsimp only [St.put]
  rw [hl1, show j1 (qg p) (ci p) = ig p from rfl]
  refine K7 _ ?_
  refine n5 2 3 1 rfl (by decide) ?_
  refine n5 3 3 1 rfl (by decide) ?_
  dsimp only [List.set_cons_zero, List.set_cons_succ]
  refine bf ?_
  refine ct 30 ?_
  refine zQ ?_
  refine c9 ((am (am G (nx + 1 + 1) (.tip (nd p ((ig p).take 0)).length 3 1)) (nx + 1 + 1 + 1) (.tip (mn p ((ig p).take 0)).length 3 1))) zX ?_
  dsimp only
  refine c8 (X := Nat) (fun k => k ≤ (ig p).length) (fun k => (ig p).length - k) (fun k => [(2, .list ((nd p ((ig p).take k)).map cells) (.tip (nx + 1 + 1))), (3, .list ((mn p ((ig p).take k)).map cells) (.tip (nx + 1 + 1 + 1))), (8, .any), (29, .v (.int .i64 (k : Int)))]) (fun k G' => (am (am G (nx + 1 + 1) (.tip (nd p ((ig p).take k)).length 3 1)) (nx + 1 + 1 + 1) (.tip (mn p ((ig p).take k)).length 3 1))) 0 rfl ?_ ?_ ?_ ?_ ?_ ?_
  ·exact Nat.zero_le _
  ·exact zF
  ·exact zX
  ·rintro k hI
   exact zL
  ·rintro k hI
   exact zH
  rintro k hK
  dsimp only at hK ⊢
  refine yS fun _ K8 => ?_
  refine yR ?_
  refine aa rfl (cn rfl rfl rfl) ?_
  refine yN ?_
  dsimp only [St.put]
  refine K8 _ ?_
  refine yS fun _ K9 => ?_
  refine aq rfl (fun hc => ?_) (fun hc => ?_)
  ·replace hc := of_decide_eq_true hc
   obtain ⟨z, hz⟩ : ∃ z, (ig p)[k]? = some z := dm (by omega)
   have hzb := uf1 (fy hz)
   have hF3 := uf2 p ((ig p).take k) z
   have hS3 := ufz p ((ig p).take k) z
   rw [← uaa hz] at hF3 hS3
   have hlF := uf3 p ((ig p).take k)
   have hlS := uf0 p ((ig p).take k)
   have hlt2 : ((ig p).take k).length ≤ 6 := by rw [List.length_take]; omega
   refine ay ?_
   refine K9 _ ?_
   refine yS fun _ K10 => ?_
   refine bf ?_
   refine yS fun _ K11 => ?_
   refine yR ?_
   refine aa rfl (bw rfl rfl rfl rfl (bu (by assumption)) (Enc.len _)) ?_
   refine yL rfl rfl rfl ?_
   refine yA rfl rfl ?_
   refine yN ?_
   dsimp only [St.put]
   refine K11 _ ?_
   refine yS fun _ K12 => ?_
   refine yR ?_
   refine yM rfl rfl ?_
   refine yF rfl rfl rfl rfl ?_
   refine yL rfl rfl rfl ?_
   refine aa rfl (bn rfl rfl (List.length_map _)) ?_
   refine aa rfl (cn rfl rfl rfl) ?_
   refine yN ?_
   dsimp only [St.put]
   refine K12 _ ?_
   refine aq rfl (fun hc => ?_) (fun hc => ?_)
   ·have hyes := of_decide_eq_true hc
    refine yR ?_
    refine yM rfl rfl ?_
    refine yM rfl rfl ?_
    try dsimp only [St.put]
    refine af rfl (b9 rfl rfl rfl (by decide) (by decide) zR (by decide) ?_)
    try dsimp only [St.put]
    refine af rfl (ce ([z]) rfl rfl zG zE rfl rfl zA ?_ zA)
    refine yA rfl rfl ?_
    refine yN ?_
    dsimp only [St.put]
    refine K10 _ ?_
    refine yR ?_
    refine aa rfl (bx rfl rfl rfl (by omega)) ?_
    refine yM rfl rfl ?_
    refine yN ?_
    dsimp only [St.put]
    first
    | (have hy2 : z < (p.firsts.length : Int) := hyes
       rw [decide_eq_true hy2, cond_true] at hF3 hS3
       rw [List.append_nil] at hS3
       simp only [← hF3]
       rw [← hS3]
       exact ⟨k + 1, by omega, by omega, ⟨⟨rfl, rfl⟩, zF, zB, zN, zX⟩⟩)
    | (have hy2 : ¬ z < (p.firsts.length : Int) := hno
       rw [decide_eq_false hy2, cond_false] at hF3 hS3
       rw [List.append_nil] at hF3
       simp only [← hS3]
       rw [← hF3]
       exact ⟨k + 1, by omega, by omega, ⟨⟨rfl, rfl⟩, zF, zB, zN, zX⟩⟩)
   have hno := of_decide_eq_false hc
   refine yR ?_
   refine yM rfl rfl ?_
   refine yM rfl rfl ?_
   refine yF rfl rfl rfl rfl ?_
   refine yL rfl rfl rfl ?_
   refine aa rfl (bn rfl rfl (List.length_map _)) ?_
   refine aa rfl (gh rfl rfl rfl (by omega)) ?_
   try dsimp only [St.put]
   refine af rfl (b9 rfl rfl rfl (by decide) (by decide) zR (by decide) ?_)
   try dsimp only [St.put]
   refine af rfl (ce ([z - (p.firsts.length : Int)]) rfl rfl zG zE rfl rfl zA ?_ zA)
   refine yA rfl rfl ?_
   refine yN ?_
   dsimp only [St.put]
   refine K10 _ ?_
   refine yR ?_
   refine aa rfl (bx rfl rfl rfl (by omega)) ?_
   refine yM rfl rfl ?_
   refine yN ?_
   dsimp only [St.put]
   first
   | (have hy2 : z < (p.firsts.length : Int) := hyes
      rw [decide_eq_true hy2, cond_true] at hF3 hS3
      rw [List.append_nil] at hS3
      simp only [← hF3]
      rw [← hS3]
      exact ⟨k + 1, by omega, by omega, ⟨⟨rfl, rfl⟩, zF, zB, zN, zX⟩⟩)
   | (have hy2 : ¬ z < (p.firsts.length : Int) := hno
      rw [decide_eq_false hy2, cond_false] at hF3 hS3
      rw [List.append_nil] at hF3
      simp only [← hS3]
      rw [← hF3]
      exact ⟨k + 1, by omega, by omega, ⟨⟨rfl, rfl⟩, zF, zB, zN, zX⟩⟩)
  replace hc := of_decide_eq_false hc
  refine c7 ?_
  refine K6 _ ?_
  refine yS fun _ K13 => ?_
  refine yR ?_
  refine yM rfl rfl ?_
  refine yM rfl rfl ?_
  refine yA rfl rfl ?_
  refine yA rfl rfl ?_
  refine yA rfl rfl ?_
  refine yN ?_
  dsimp only [St.put]
  refine K13 _ ?_
  refine ax ?_
  refine udy rfl (ed (by constructor)) (ed (by constructor)) (ed (by constructor)) zN zS ?_ ?_ ?_
  ·rw [hL, n7, f5 (show (ig p).length ≤ k by omega)]; exact zW
  ·rw [hL, n7, f5 (show (ig p).length ≤ k by omega)]; exact zW
  rw [hL]; exact zW
 refine yR ?_
 refine yE rfl rfl rfl ?_
 try dsimp only [St.put]
 refine af rfl (ec rfl rfl rfl (nk n p) zG (by dsimp only [St.put]; omega) ?_)
 refine yX rfl rfl rfl rfl ?_
 refine yX rfl rfl rfl rfl ?_
 try dsimp only [St.put]
 refine af rfl (ec rfl rfl rfl (r8 n p (jq p) (cw p) o9 hL) zG (by dsimp only [St.put]; omega) ?_)
 refine yM rfl rfl ?_
 refine yX rfl rfl rfl rfl ?_
 refine yX rfl rfl rfl rfl ?_
 try dsimp only [St.put]
 refine af rfl (d7 rfl ?_)
 try dsimp only [St.put]
 refine af rfl (dj rfl rfl rfl zG rfl rfl (by rfl) ?_)
 refine yA rfl rfl ?_
 refine yN ?_
 dsimp only [St.put]
 refine K2 _ ?_
 refine yS fun _ K14 => ?_
 refine yS fun _ K15 => ?_
 refine yR ?_
 refine yM rfl rfl ?_
 refine aa rfl (fb rfl rfl rfl) ?_
 refine yN ?_
 dsimp only [St.put]
 refine K15 _ ?_
 refine aq rfl (fun hc => ?_) (fun hc => ?_)
 ·try replace hc := of_decide_eq_true hc
  refine yS fun _ K16 => ?_
  refine yR ?_
  refine yM rfl rfl ?_
  refine yA rfl rfl ?_
  refine yA rfl rfl ?_
  refine yA rfl rfl ?_
  refine yN ?_
  dsimp only [St.put]
  refine K16 _ ?_
  refine ax ?_
  refine udy rfl (ed (by constructor)) (ed (by constructor)) (ed (by constructor)) zN zS ?_ ?_ ?_
  ·rw [lf hL]; exact zW
  ·rw [lf hL]; exact zW
  exact zW
 exact absurd (ia hc) hL
set_option maxHeartbeats 1000000 in
theorem xo (n : Nat) (p : ah) (m : Int) : et n eo Tryz.prog 35 [val p, .v (.int .i64 m)] (.tup [lst (ji p m), .v (.int .i64 (i3 p m))]) := fun G nx hF hnx => by
 refine ii (G) (nx) Tryz.func35 rfl (.tup (cp (bz _ _) (cp .v dn))) zN (fun hlt => zH) ?_
 simp only [Tryz.ntmps35, List.length_cons, List.length_nil, Nat.reduceAdd, Nat.reduceSub]
 refine ca fun hlt => ?_
 dsimp only at hlt
 refine yS fun _ K1 => ?_
 refine yR ?_
 try dsimp only [St.put]
 refine yB rfl rfl rfl ?_
 try dsimp only [St.put]
 refine yB rfl rfl rfl ?_
 refine yA rfl rfl ?_
 refine yA rfl rfl ?_
 refine yN ?_
 dsimp only [St.put]
 refine K1 _ ?_
 refine yS fun _ K2 => ?_
 refine yR ?_
 refine yE rfl rfl rfl ?_
 try dsimp only [St.put]
 refine af rfl (ec rfl rfl rfl (nk n p) zG (by dsimp only [St.put]; omega) ?_)
 refine yM rfl rfl ?_
 refine yX rfl rfl rfl rfl ?_
 refine yX rfl rfl rfl rfl ?_
 refine yA rfl rfl ?_
 refine yA rfl rfl ?_
 refine yN ?_
 dsimp only [St.put]
 refine K2 _ ?_
 refine yS fun _ K3 => ?_
 refine yS fun _ K4 => ?_
 refine yR ?_
 refine yM rfl rfl ?_
 refine aa rfl (fb rfl rfl rfl) ?_
 refine yN ?_
 dsimp only [St.put]
 refine K4 _ ?_
 refine aq rfl (fun hc => ?_) (fun hc => ?_)
 ·have h0 : cw p ≠ 0 := jg hc
  have hE : i3 p m = cw p := umn h0
  have hV : ji p m = [] := by unfold ji; rw [hE, lf h0]
  refine yS fun _ K5 => ?_
  refine yR ?_
  refine yM rfl rfl ?_
  refine yA rfl rfl ?_
  refine yA rfl rfl ?_
  refine yN ?_
  dsimp only [St.put]
  refine K5 _ ?_
  refine ax ?_
  refine g8 rfl (ed (by constructor)) (ed (by constructor)) zN zS ?_ ?_
  ·rw [hV]; exact zW
  rw [hE]; exact zW
 have h0 : cw p = 0 := ia hc
 obtain ⟨hok, _⟩ := ld h0
 have hnp := hok.np
 refine ay ?_
 refine K3 _ ?_
 refine yS fun _ K6 => ?_
 refine yS fun _ K7 => ?_
 refine yR ?_
 refine yL rfl rfl rfl ?_
 refine aa rfl (cn rfl rfl rfl) ?_
 refine yN ?_
 dsimp only [St.put]
 refine K7 _ ?_
 refine aq rfl (fun hc => ?_) (fun hc => ?_)
 ·have hm : m < 0 := of_decide_eq_true hc
  have hE : i3 p m = 2 := umm h0 hm
  have hV : ji p m = [] := by unfold ji; rw [hE, lf (by decide)]
  refine yS fun _ K8 => ?_
  refine yR ?_
  refine yA rfl rfl ?_
  refine yA rfl rfl ?_
  refine yN ?_
  dsimp only [St.put]
  refine K8 _ ?_
  refine ax ?_
  refine g8 rfl (ed (by constructor)) (ed (by constructor)) zN zS ?_ ?_
  ·rw [hV]; exact zW
  rw [hE]; exact zW
 have hm : ¬ m < 0 := of_decide_eq_false hc
 refine ay ?_
 refine K6 _ ?_
 refine yS fun _ K9 => ?_
 by_cases hL : fh p (cw p) = 0
 ·refine yR ?_
  refine yM rfl rfl ?_
  refine yM rfl rfl ?_
  try dsimp only [St.put]
  refine af rfl (ec rfl rfl rfl (r7 n p (jq p) (cw p) o9 hL) zG (by dsimp only [St.put]; omega) ?_)
  refine yM rfl rfl ?_
  refine yX rfl rfl rfl rfl ?_
  refine yX rfl rfl rfl rfl ?_
  try dsimp only [St.put]
  refine af rfl (d7 rfl ?_)
  try dsimp only [St.put]
  refine af rfl (dj rfl rfl rfl zG rfl rfl (by rfl) ?_)
  refine yA rfl rfl ?_
  refine yN ?_
  dsimp only [St.put]
  refine K9 _ ?_
  refine gp (i := 8) rfl zG zC ?_
  dsimp only
  refine yS fun _ K10 => ?_
  refine yS fun _ K11 => ?_
  refine yR ?_
  refine yM rfl rfl ?_
  refine aa rfl (fb rfl rfl rfl) ?_
  refine yN ?_
  dsimp only [St.put]
  refine K11 _ ?_
  refine aq rfl (fun hc => ?_) (fun hc => ?_)
  ·exact absurd hc (by decide)
  have hTB := (sq hL).2
  have hE : i3 p m = 0 := ueh h0 hm hTB
  have hV : ji p m = j1 (lm p m) p.pages.length := by unfold ji; rw [hE, n7]
  refine ay ?_
  refine K10 _ ?_
  refine yS fun _ K12 => ?_
  refine yR ?_
  refine yF rfl rfl rfl rfl ?_
  refine yL rfl rfl rfl ?_
  refine aa rfl (bn rfl rfl (List.length_map _)) ?_
  try dsimp only [St.put]
  refine af rfl (bc rfl rfl rfl (uar p.pages.length) ?_)
  refine aa rfl (pt rfl rfl) ?_
  try dsimp only [St.put]
  refine af rfl (ec rfl rfl rfl (udp n p.pages.length (lm p m) 78 [.elem (cells (ge p (c5 p) (dg p))), .elem [.v (.int .i64 m)]] hnp (ua4 p _ _ _) (fun s _ => uiz p m s _ hok (by have := mw p.pages.length s; omega) (fun z hz => by obtain ⟨i, rfl, hi, _⟩ := membersL_mem.1 hz; omega))) zG (by dsimp only [St.put]; omega) ?_)
  refine yA rfl rfl ?_
  refine yA rfl rfl ?_
  refine yN ?_
  dsimp only [St.put]
  refine K12 _ ?_
  refine ax ?_
  refine g8 rfl (ed (by constructor)) (ed (by constructor)) zN zS ?_ ?_
  ·rw [hV]; exact zW
  rw [hE]; exact zW
 refine yR ?_
 refine yM rfl rfl ?_
 refine yM rfl rfl ?_
 try dsimp only [St.put]
 refine af rfl (ec rfl rfl rfl (r8 n p (jq p) (cw p) o9 hL) zG (by dsimp only [St.put]; omega) ?_)
 refine yM rfl rfl ?_
 refine yX rfl rfl rfl rfl ?_
 refine yX rfl rfl rfl rfl ?_
 try dsimp only [St.put]
 refine af rfl (d7 rfl ?_)
 try dsimp only [St.put]
 refine af rfl (dj rfl rfl rfl zG rfl rfl (by rfl) ?_)
 refine yA rfl rfl ?_
 refine yN ?_
 dsimp only [St.put]
 refine K9 _ ?_
 refine gp (i := 8) rfl zG zC ?_
 dsimp only
 refine yS fun _ K13 => ?_
 refine yS fun _ K14 => ?_
 refine yR ?_
 refine yM rfl rfl ?_
 refine aa rfl (fb rfl rfl rfl) ?_
 refine yN ?_
 dsimp only [St.put]
 refine K14 _ ?_
 refine aq rfl (fun hc => ?_) (fun hc => ?_)
 ·have hTB : gm p = false := by
   cases h : gm p
   ·rfl
   exact absurd (by rw [h0, qv, h]; rfl) hL
  have hE : i3 p m = 8 := uei h0 hm hTB
  have hV : ji p m = [] := by unfold ji; rw [hE, lf (by decide)]
  have hL8 : fh p (cw p) = 8 := by rw [h0, qv, hTB]; rfl
  refine yS fun _ K15 => ?_
  refine yR ?_
  refine yM rfl rfl ?_
  refine yA rfl rfl ?_
  refine yA rfl rfl ?_
  refine yN ?_
  dsimp only [St.put]
  refine K15 _ ?_
  refine ax ?_
  refine g8 rfl (ed (by constructor)) (ed (by constructor)) zN zS ?_ ?_
  ·rw [hV]; exact zW
  rw [hE, hL8]; exact zW
 exact absurd (ia hc) hL
end Go.Proofs.YtbbdginipiljdaaGreatDoor
namespace Go.AB
open Go Go.RowKit
open Go.AB.Enc (cells)
open Go.PB (az ai PlaceD bg bj bi bv aw ah cx br da dh)
def ql (p : ah) : Bool := !ny p && decide (cw p = 0)
section
variable {P : Program} {o : Oper} {st : St} {K : St → Prop}
/-- What stands in a slot is known less well, ahead of an operation. -/
theorem e_wk (i : Nat) {c : C} (c' : C) (h0 : st.at i = c) (hw : Wk c c') (h : EStep P o { st with r := (i, c') :: st.r } K) : EStep P o st K := by
 intro E w a hs
 have hp := hs.at i
 rw [h0] at hp
 refine h E w a ⟨hs.d, hs.sz, fun j v hj => ?_, hs.g⟩
 simp only [dr]
 cases hb : Nat.beq i j
 ·exact hs.t j v hj
 have hij := Nat.eq_of_beq_eq_true hb
 subst hij
 have hv : a.tmps.getD i undef = v := by rw [Array.getD_eq_getD_getElem?, hj]; rfl
 rw [hv] at hp
 exact hw.2 _ _ _ hp
end
theorem lh {α : Type} [Enc α] (l : List α) : ∀ r ∈ l.map cells, r.length = Enc.n α := fun r hr => by
 obtain ⟨y, _, rfl⟩ := List.mem_map.1 hr
 exact Enc.len y
theorem readyP_true {p : ah} : ql p = true ↔ ny p = false ∧ cw p = 0 := by simp [ql]
end Go.AB
namespace Go.Proofs.YtbbdginipiljdaaGreatDoor
set_option maxRecDepth 10000
open Go Go.RowKit Go.AB
open Go.AB.Enc (cells)
open Go.PB (az ai PlaceD bg bj bi bv aw ah cx br da dh)
theorem ucz (a : List PlaceD) : Pure Tryz.prog 61 [lst a, lst a] (.v (.bool true)) := by
 have := un4 a a
 rwa [decide_eq_true rfl] at this
theorem uc0 (a : List Int) (ha : a.length ≤ 1000) : Pure Tryz.prog 19 [lst a, lst a] (.v (.bool true)) := by
 have := ua9 a a ha
 rwa [decide_eq_true rfl] at this
theorem pz (a b c : Int) : Pure Tryz.prog 68 [.v (.int .i64 a), .v (.int .i64 b), .v (.int .i64 c)] (val (⟨a, b, c⟩ : PlaceD)) := by
 refine c6 Tryz.func68 rfl (fun m => (ei _ _)) fun G nx => ?_
 simp only [Tryz.ntmps68, List.length_cons, List.length_nil, Nat.reduceAdd, Nat.reduceSub]
 refine ca fun hlt => ?_
 dsimp only at hlt
 refine yS fun _ K1 => ?_
 refine yR ?_
 try dsimp only [St.put]
 refine af rfl (d7 rfl ?_)
 refine yN ?_
 dsimp only [St.put]
 refine K1 _ ?_
 refine yS fun _ K2 => ?_
 refine yR ?_
 refine yM rfl rfl ?_
 refine yM rfl rfl ?_
 refine yM rfl rfl ?_
 refine aa rfl (im rfl rfl) ?_
 try dsimp only [St.put]
 refine af rfl (dj rfl rfl rfl zG rfl rfl (by rfl) ?_)
 refine yN ?_
 dsimp only [St.put]
 refine K2 _ ?_
 refine ax ?_
 refine p6 rfl (jy rfl zG (by rfl) zC rfl) zN zS ?_
 exact zW
theorem sw (l : List PlaceD) : Pure Tryz.prog 67 [lst l] (lst l) := by
 refine c6 Tryz.func67 rfl (fun m => (bz _ _)) fun G nx => ?_
 simp only [Tryz.ntmps67, List.length_cons, List.length_nil, Nat.reduceAdd, Nat.reduceSub]
 refine ca fun hlt => ?_
 dsimp only at hlt
 refine yS fun _ K1 => ?_
 refine yR ?_
 refine yA rfl rfl ?_
 refine yN ?_
 dsimp only [St.put]
 refine K1 _ ?_
 refine yS fun _ K2 => ?_
 refine yR ?_
 refine yM rfl rfl ?_
 refine yA rfl rfl ?_
 refine yN ?_
 dsimp only [St.put]
 refine K2 _ ?_
 refine ax ?_
 refine bh rfl (by constructor) zN zS ?_
 rfl
theorem m3 : Pure Tryz.prog 63 [] (val exPr) := by
 refine c6 Tryz.func63 rfl (fun m => (ei _ _)) fun G nx => ?_
 simp only [Tryz.ntmps63, List.length_cons, List.length_nil, Nat.reduceAdd, Nat.reduceSub]
 refine ca fun hlt => ?_
 dsimp only at hlt
 refine yS fun _ K1 => ?_
 refine yR ?_
 try dsimp only [St.put]
 refine af rfl (d7 rfl ?_)
 refine yN ?_
 dsimp only [St.put]
 refine K1 _ ?_
 refine yS fun _ K2 => ?_
 refine yR ?_
 try dsimp only [St.put]
 refine af rfl (b9 (rows := ([mh, i6, xIs, mi] : List ByteArray).map cells) rfl rfl rfl (by decide) (by decide) (lh _) (by decide) ?_)
 try dsimp only [St.put]
 refine af rfl (b9 (rows := ([mi, mh, i6] : List ByteArray).map cells) rfl rfl rfl (by decide) (by decide) (lh _) (by decide) ?_)
 try dsimp only [St.put]
 refine af rfl (b9 (rows := ([[mh, i6, xIs, mi], [mi, mh, i6]] : List (List ByteArray)).map cells) rfl rfl rfl (by decide) (by decide) (lh _) (by decide) ?_)
 refine aa rfl (im (cs := cells (⟨7, [[mh, i6, xIs, mi], [mi, mh, i6]]⟩ : az)) rfl rfl) ?_
 try dsimp only [St.put]
 refine af rfl (b9 (rows := ([i6, rj, i6] : List ByteArray).map cells) rfl rfl rfl (by decide) (by decide) (lh _) (by decide) ?_)
 try dsimp only [St.put]
 refine af rfl (b9 (rows := ([[i6, rj, i6]] : List (List ByteArray)).map cells) rfl rfl rfl (by decide) (by decide) (lh _) (by decide) ?_)
 refine aa rfl (im (cs := cells (⟨3, [[i6, rj, i6]]⟩ : az)) rfl rfl) ?_
 try dsimp only [St.put]
 refine af rfl (b9 (rows := ([⟨7, [[mh, i6, xIs, mi], [mi, mh, i6]]⟩, ⟨3, [[i6, rj, i6]]⟩] : List az).map cells) rfl rfl rfl (by decide) (by decide) (lh _) (by decide) ?_)
 refine aa rfl (im (cs := [lst exTx]) rfl rfl) ?_
 refine aa rfl (im (cs := cells (⟨1, 50⟩ : bv)) rfl rfl) ?_
 refine aa rfl (im (cs := cells (⟨2, 0⟩ : bv)) rfl rfl) ?_
 try dsimp only [St.put]
 refine af rfl (b9 (rows := ([⟨1, 50⟩, ⟨2, 0⟩] : List bv).map cells) rfl rfl rfl (by decide) (by decide) (lh _) (by decide) ?_)
 refine aa rfl (im (cs := cells (⟨3, 60⟩ : bv)) rfl rfl) ?_
 try dsimp only [St.put]
 refine af rfl (b9 (rows := ([⟨3, 60⟩] : List bv).map cells) rfl rfl rfl (by decide) (by decide) (lh _) (by decide) ?_)
 try dsimp only [St.put]
 refine af rfl (bc rfl rfl rfl (pz _ _ _) ?_)
 try dsimp only [St.put]
 refine af rfl (b9 (rows := ([⟨0, 0, 0⟩] : List PlaceD).map cells) rfl rfl rfl (by decide) (by decide) (lh _) (by decide) ?_)
 try dsimp only [St.put]
 refine af rfl (bc rfl rfl rfl (sw [⟨0, 0, 0⟩]) ?_)
 try dsimp only [St.put]
 refine af rfl (bc rfl rfl rfl (pz _ _ _) ?_)
 try dsimp only [St.put]
 refine af rfl (bc rfl rfl rfl (pz _ _ _) ?_)
 try dsimp only [St.put]
 refine af rfl (b9 (rows := ([⟨0, 0, 0⟩, ⟨0, 0, 3⟩] : List PlaceD).map cells) rfl rfl rfl (by decide) (by decide) (lh _) (by decide) ?_)
 try dsimp only [St.put]
 refine af rfl (bc rfl rfl rfl (sw [⟨0, 0, 0⟩, ⟨0, 0, 3⟩]) ?_)
 refine aa rfl (im (cs := cells (⟨0, 0, 0, 0, [⟨0, 0, 0⟩], [⟨0, 0, 0⟩, ⟨0, 0, 3⟩]⟩ : aw)) rfl rfl) ?_
 try dsimp only [St.put]
 refine af rfl (bc rfl rfl rfl (pz _ _ _) ?_)
 try dsimp only [St.put]
 refine af rfl (b9 (rows := ([⟨0, 1, 1⟩] : List PlaceD).map cells) rfl rfl rfl (by decide) (by decide) (lh _) (by decide) ?_)
 try dsimp only [St.put]
 refine af rfl (bc rfl rfl rfl (sw [⟨0, 1, 1⟩]) ?_)
 refine aa rfl (im (cs := [.v (.int .i64 1), .v (.int .i64 2), .v (.int .i64 0), .v (.int .i64 (-1)), lst ([⟨0, 1, 1⟩] : List PlaceD), .list [] .nil]) rfl rfl) ?_
 try dsimp only [St.put]
 refine af rfl (e_wk 26 (val (⟨1, 2, 0, -1, [⟨0, 1, 1⟩], []⟩ : aw)) rfl (by show Wk _ (.agg _); exact zW) ?_)
 dsimp only
 refine b9 (rows := ([⟨0, 0, 0, 0, [⟨0, 0, 0⟩], [⟨0, 0, 0⟩, ⟨0, 0, 3⟩]⟩, ⟨1, 2, 0, -1, [⟨0, 1, 1⟩], []⟩] : List aw).map cells) rfl rfl rfl (by decide) (by decide) (lh _) (by decide) ?_
 refine aa rfl (im (cs := [lst exTx, lst exPr.firsts, lst exPr.seconds, lst exPr.pages]) rfl rfl) ?_
 try dsimp only [St.put]
 refine af rfl (dj rfl rfl rfl zG rfl rfl (by rfl) ?_)
 refine yN ?_
 dsimp only [St.put]
 refine K2 _ ?_
 refine ax ?_
 refine p6 rfl (jy rfl zG (by rfl) zC rfl) zN zS ?_
 exact zW
theorem uk4 (n : Nat) (b : Bool) (r want : Int) : et n eo Tryz.prog 69 [.v (.bool b), .v (.int .i64 r), .v (.int .i64 want)] (.v (.bool (decide (jw exPr b r = 0) && decide (mc exPr b r = want)))) := fun G nx hF hnx => by
 refine ii (G) (nx) Tryz.func69 rfl (.v) zN (fun hlt => zH) ?_
 simp only [Tryz.ntmps69, List.length_cons, List.length_nil, Nat.reduceAdd, Nat.reduceSub]
 refine ca fun hlt => ?_
 dsimp only at hlt
 refine yS fun _ K1 => ?_
 refine yR ?_
 refine yA rfl rfl ?_
 refine yN ?_
 dsimp only [St.put]
 refine K1 _ ?_
 refine yS fun _ K2 => ?_
 refine yR ?_
 try dsimp only [St.put]
 refine af rfl (bc rfl rfl rfl (m3) ?_)
 refine yM rfl rfl ?_
 refine yM rfl rfl ?_
 try dsimp only [St.put]
 refine af rfl (ec rfl rfl rfl (ubs n exPr b r) zG (by dsimp only [St.put]; omega) ?_)
 refine yM rfl rfl ?_
 refine yX rfl rfl rfl rfl ?_
 refine yX rfl rfl rfl rfl ?_
 refine yA rfl rfl ?_
 refine yA rfl rfl ?_
 refine yN ?_
 dsimp only [St.put]
 refine K2 _ ?_
 refine yS fun _ K3 => ?_
 refine yR ?_
 refine yM rfl rfl ?_
 refine aa rfl (fo rfl rfl rfl) ?_
 refine ey (fun hs => ?_) (fun hs => ?_)
 ·have h1 : decide (jw exPr b r = 0) = true := hs
  refine yM rfl rfl ?_
  refine yM rfl rfl ?_
  refine yM rfl rfl ?_
  refine aa rfl (fo rfl rfl rfl) ?_
  refine aa rfl (cg rfl rfl (by constructor)) ?_
  refine yA rfl rfl ?_
  refine yN ?_
  dsimp only [St.put]
  refine K3 _ ?_
  refine ax ?_
  refine bh rfl (by constructor) zN zS ?_
  exact vb (by rw [h1]; rfl)
 have h1 : decide (jw exPr b r = 0) = false := hs
 refine yM rfl rfl ?_
 refine yK rfl ?_
 refine yK rfl ?_
 refine yK rfl ?_
 refine aa rfl (cy rfl rfl (by constructor)) ?_
 refine yA rfl rfl ?_
 refine yN ?_
 dsimp only [St.put]
 refine K3 _ ?_
 refine ax ?_
 refine bh rfl (by constructor) zN zS ?_
 exact vb (by rw [h1]; rfl)
theorem uk1 (n : Nat) (m : Int) (want : List Int) : et n eo Tryz.prog 70 [.v (.int .i64 m), lst want] (.v (.bool (decide (i3 exPr m = 0) && decide (ji exPr m = want)))) := fun G nx hF hnx => by
 refine ii (G) (nx) Tryz.func70 rfl (.v) zN (fun hlt => zH) ?_
 simp only [Tryz.ntmps70, List.length_cons, List.length_nil, Nat.reduceAdd, Nat.reduceSub]
 refine ca fun hlt => ?_
 dsimp only at hlt
 have hcl : (ji exPr m).length ≤ 1000 := by
  unfold ji atE
  cases decide (i3 exPr m = 0)
  ·exact Nat.zero_le _
  have := ues (lm exPr m) exPr.pages.length
  have e : exPr.pages.length = 2 := rfl
  show (j1 (lm exPr m) exPr.pages.length).length ≤ 1000
  omega
 refine yS fun _ K1 => ?_
 refine yR ?_
 refine yA rfl rfl ?_
 refine yN ?_
 dsimp only [St.put]
 refine K1 _ ?_
 refine yS fun _ K2 => ?_
 refine yR ?_
 try dsimp only [St.put]
 refine af rfl (bc rfl rfl rfl (m3) ?_)
 refine yM rfl rfl ?_
 try dsimp only [St.put]
 refine af rfl (ec rfl rfl rfl (xo n exPr m) zG (by dsimp only [St.put]; omega) ?_)
 refine yM rfl rfl ?_
 refine yX rfl rfl rfl rfl ?_
 refine yX rfl rfl rfl rfl ?_
 refine yA rfl rfl ?_
 refine yA rfl rfl ?_
 refine yN ?_
 dsimp only [St.put]
 refine K2 _ ?_
 refine yS fun _ K3 => ?_
 refine yR ?_
 refine yM rfl rfl ?_
 refine aa rfl (fo rfl rfl rfl) ?_
 refine ey (fun hs => ?_) (fun hs => ?_)
 ·have h1 : decide (i3 exPr m = 0) = true := hs
  refine yM rfl rfl ?_
  refine yM rfl rfl ?_
  refine yM rfl rfl ?_
  try dsimp only [St.put]
  refine af rfl (bc rfl rfl rfl (ua9 (ji exPr m) want hcl) ?_)
  refine aa rfl (cg rfl rfl (by constructor)) ?_
  refine yA rfl rfl ?_
  refine yN ?_
  dsimp only [St.put]
  refine K3 _ ?_
  refine ax ?_
  refine bh rfl (by constructor) zN zS ?_
  exact vb (by rw [h1]; rfl)
 have h1 : decide (i3 exPr m = 0) = false := hs
 refine yM rfl rfl ?_
 refine yK rfl ?_
 refine yK rfl ?_
 refine yK rfl ?_
 refine aa rfl (cy rfl rfl (by constructor)) ?_
 refine yA rfl rfl ?_
 refine yN ?_
 dsimp only [St.put]
 refine K3 _ ?_
 refine ax ?_
 refine bh rfl (by constructor) zN zS ?_
 exact vb (by rw [h1]; rfl)
theorem unp (n : Nat) : et n eo Tryz.prog 62 [val exPr, .v (.int .i64 1)] (.tup [.v (.int .i64 6), .v (.int .i64 0)]) := by
 have := ubm n exPr 1
 rwa [xp_words.1, xp_words.2.1] at this
theorem unu (n : Nat) : et n eo Tryz.prog 64 [val exPr, .v (.int .i64 0)] (.tup [lst ([⟨0, 0, 0⟩, ⟨0, 0, 3⟩] : List PlaceD), .v (.int .i64 0)]) := by
 have := ubr n exPr 0
 rwa [xp_found.1, xp_words.2.2.2] at this
theorem unx (n : Nat) : et n eo Tryz.prog 65 [val exPr, .v (.int .i64 0)] (.tup [lst ([⟨0, 0, 0⟩] : List PlaceD), .v (.int .i64 0)]) := by
 have := ui0 n exPr 0
 rwa [xp_found.2, xp_words.2.2.2] at this
theorem uns (n : Nat) : et n eo Tryz.prog 66 [val exPr, .v (.int .i64 0)] (.tup [val (⟨2, 2⟩ : br), .v (.int .i64 0)]) := by
 have := uiy n exPr 0
 rwa [xp_guess.1, xp_guess.2] at this
theorem unr (n : Nat) : et n eo Tryz.prog 11 [val exPr, .v (.int .i64 1)] (.tup [val (⟨0, 1⟩ : br), .v (.int .i64 0)]) := by
 have := uiu n exPr 1
 rwa [xp_remain.1, xp_remain.2.1] at this
theorem unq (n : Nat) : et n eo Tryz.prog 13 [val exPr] (.tup [val (⟨0, 1⟩ : br), .v (.int .i64 0)]) := by
 have := uiq n exPr
 rwa [ufi, tu] at this
theorem uno (n : Nat) : et n eo Tryz.prog 15 [val exPr] (.tup [lst ([1, 0] : List Int), .v (.int .i64 0)]) := by
 have := xl n exPr
 rwa [ufh, tu] at this
theorem alWhy (n : Nat) : et n eo Tryz.prog 17 [val exPr] (.tup [lst ([0] : List Int), lst ([] : List Int), .v (.int .i64 0)]) := by
 have := uio n exPr
 rwa [tu, n7, n7, xp_why.1, xp_why.2] at this
theorem unw (n : Nat) : et n eo Tryz.prog 69 [.v (.bool false), .v (.int .i64 0), .v (.int .i64 4)] (.v (.bool true)) := by
 have := uk4 n false 0 4
 rwa [xp_bound.1, xp_bound.2.1] at this
theorem unv (n : Nat) : et n eo Tryz.prog 70 [.v (.int .i64 0), lst ([0, 1] : List Int)] (.v (.bool true)) := by
 have := uk1 n 0 [0, 1]
 rwa [xp_chief.1, xp_chief.2.1] at this
set_option maxHeartbeats 4000000 in
theorem unn (n : Nat) : et n eo Tryz.prog 21 [] (.v (.bool true)) := fun G nx hF hnx => by
 refine ii (G) (nx) Tryz.func21 rfl (.v) zN (fun hlt => zH) ?_
 simp only [Tryz.ntmps21, List.length_cons, List.length_nil, Nat.reduceAdd, Nat.reduceSub]
 refine ca fun hlt => ?_
 dsimp only at hlt
 refine yS fun _ K1 => ?_
 refine yR ?_
 refine yA rfl rfl ?_
 refine yN ?_
 dsimp only [St.put]
 refine K1 _ ?_
 refine yS fun _ K2 => ?_
 refine yR ?_
 try dsimp only [St.put]
 refine af rfl (bc rfl rfl rfl (m3) ?_)
 try dsimp only [St.put]
 refine af rfl ((ec rfl rfl rfl ((unp n)) zG (by dsimp only [St.put]; omega) ?_))
 refine yM rfl rfl ?_
 refine yX rfl rfl rfl rfl ?_
 refine yX rfl rfl rfl rfl ?_
 refine yA rfl rfl ?_
 refine yA rfl rfl ?_
 refine yN ?_
 dsimp only [St.put]
 refine K2 _ ?_
 refine yS fun _ K3 => ?_
 refine yR ?_
 try dsimp only [St.put]
 refine af rfl (bc rfl rfl rfl (m3) ?_)
 try dsimp only [St.put]
 refine af rfl ((ec rfl rfl rfl ((unu n)) zG (by dsimp only [St.put]; omega) ?_))
 refine yM rfl rfl ?_
 refine yX rfl rfl rfl rfl ?_
 refine yX rfl rfl rfl rfl ?_
 refine yA rfl rfl ?_
 refine yA rfl rfl ?_
 refine yN ?_
 dsimp only [St.put]
 refine K3 _ ?_
 refine yS fun _ K4 => ?_
 refine yR ?_
 try dsimp only [St.put]
 refine af rfl (bc rfl rfl rfl (m3) ?_)
 try dsimp only [St.put]
 refine af rfl ((ec rfl rfl rfl ((unx n)) zG (by dsimp only [St.put]; omega) ?_))
 refine yM rfl rfl ?_
 refine yX rfl rfl rfl rfl ?_
 refine yX rfl rfl rfl rfl ?_
 refine yA rfl rfl ?_
 refine yA rfl rfl ?_
 refine yN ?_
 dsimp only [St.put]
 refine K4 _ ?_
 refine yS fun _ K5 => ?_
 refine yR ?_
 try dsimp only [St.put]
 refine af rfl (bc rfl rfl rfl (m3) ?_)
 try dsimp only [St.put]
 refine af rfl ((ec rfl rfl rfl ((uns n)) zG (by dsimp only [St.put]; omega) ?_))
 refine yM rfl rfl ?_
 refine yX rfl rfl rfl rfl ?_
 refine yX rfl rfl rfl rfl ?_
 try dsimp only [St.put]
 refine af rfl (d7 rfl ?_)
 try dsimp only [St.put]
 refine af rfl (dj rfl rfl rfl zG rfl rfl (by rfl) ?_)
 refine yA rfl rfl ?_
 refine yN ?_
 dsimp only [St.put]
 refine K5 _ ?_
 refine gp (i := 7) rfl zG zC ?_
 dsimp only
 refine yS fun _ K6 => ?_
 refine yR ?_
 try dsimp only [St.put]
 refine af rfl (bc rfl rfl rfl (m3) ?_)
 try dsimp only [St.put]
 refine af rfl ((ec rfl rfl rfl ((unr n)) zG (by dsimp only [St.put]; omega) ?_))
 refine yM rfl rfl ?_
 refine yX rfl rfl rfl rfl ?_
 refine yX rfl rfl rfl rfl ?_
 try dsimp only [St.put]
 refine af rfl (d7 rfl ?_)
 try dsimp only [St.put]
 refine af rfl (dj rfl rfl rfl zG rfl rfl (by rfl) ?_)
 refine yA rfl rfl ?_
 refine yN ?_
 dsimp only [St.put]
 refine K6 _ ?_
 refine gp (i := 9) rfl zG zC ?_
 dsimp only
 refine yS fun _ K7 => ?_
 refine yR ?_
 try dsimp only [St.put]
 refine af rfl (bc rfl rfl rfl (m3) ?_)
 try dsimp only [St.put]
 refine af rfl ((ec rfl rfl rfl ((unq n)) zG (by dsimp only [St.put]; omega) ?_))
 refine yM rfl rfl ?_
 refine yX rfl rfl rfl rfl ?_
 refine yX rfl rfl rfl rfl ?_
 try dsimp only [St.put]
 refine af rfl (d7 rfl ?_)
 try dsimp only [St.put]
 refine af rfl (dj rfl rfl rfl zG rfl rfl (by rfl) ?_)
 refine yA rfl rfl ?_
 refine yN ?_
 dsimp only [St.put]
 refine K7 _ ?_
 refine gp (i := 11) rfl zG zC ?_
 dsimp only
 refine yS fun _ K8 => ?_
 refine yR ?_
 try dsimp only [St.put]
 refine af rfl (bc rfl rfl rfl (m3) ?_)
 try dsimp only [St.put]
 refine af rfl ((ec rfl rfl rfl ((uno n)) zG (by dsimp only [St.put]; omega) ?_))
 refine yM rfl rfl ?_
 refine yX rfl rfl rfl rfl ?_
 refine yX rfl rfl rfl rfl ?_
 refine yA rfl rfl ?_
 refine yA rfl rfl ?_
 refine yN ?_
 dsimp only [St.put]
 refine K8 _ ?_
 refine yS fun _ K9 => ?_
 refine yR ?_
 try dsimp only [St.put]
 refine af rfl (bc rfl rfl rfl (m3) ?_)
 try dsimp only [St.put]
 refine af rfl ((ec rfl rfl rfl ((alWhy n)) zG (by dsimp only [St.put]; omega) ?_))
 refine yM rfl rfl ?_
 refine yX rfl rfl rfl rfl ?_
 refine yX rfl rfl rfl rfl ?_
 refine yX rfl rfl rfl rfl ?_
 refine yA rfl rfl ?_
 refine yA rfl rfl ?_
 refine yA rfl rfl ?_
 refine yN ?_
 dsimp only [St.put]
 refine K9 _ ?_
 refine yS fun _ K10 => ?_
 refine ct 18 ?_
 refine zQ ?_
 refine c9 G zX ?_
 dsimp only
 refine yR ?_
 refine yM rfl rfl ?_
 refine aa rfl (ef (fo rfl rfl rfl) (decide_eq_true (by omega))) ?_
 refine yM rfl rfl ?_
 refine yM rfl rfl ?_
 ((first | refine aa rfl ((ef (c := true) (fo rfl rfl rfl) (decide_eq_true rfl))) ?_ | refine ae rfl rfl rfl rfl ((ef (c := true) (fo rfl rfl rfl) (decide_eq_true rfl))) ?_ | refine em rfl rfl rfl rfl ((ef (c := true) (fo rfl rfl rfl) (decide_eq_true rfl))) ?_ | refine tj rfl rfl rfl ((ef (c := true) (fo rfl rfl rfl) (decide_eq_true rfl))) ?_))
 refine aa rfl (cg rfl rfl (by constructor)) ?_
 refine yM rfl rfl ?_
 refine yM rfl rfl ?_
 refine aa rfl (ef (fo rfl rfl rfl) (decide_eq_true (by omega))) ?_
 refine aa rfl (cg rfl rfl (by constructor)) ?_
 refine yM rfl rfl ?_
 refine yM rfl rfl ?_
 try dsimp only [St.put]
 refine af rfl (bc rfl rfl rfl (pz _ _ _) ?_)
 try dsimp only [St.put]
 refine af rfl (bc rfl rfl rfl (pz _ _ _) ?_)
 try dsimp only [St.put]
 refine af rfl (b9 rfl rfl rfl (by decide) (by decide) zR (by decide) ?_)
 try dsimp only [St.put]
 refine af rfl (bc rfl rfl rfl (sw [⟨0, 0, 0⟩, ⟨0, 0, 3⟩]) ?_)
 try dsimp only [St.put]
 refine af rfl (bc rfl rfl rfl (ucz [⟨0, 0, 0⟩, ⟨0, 0, 3⟩]) ?_)
 refine aa rfl (cg rfl rfl (by constructor)) ?_
 refine yM rfl rfl ?_
 refine yM rfl rfl ?_
 refine aa rfl (ef (fo rfl rfl rfl) (decide_eq_true (by omega))) ?_
 refine aa rfl (cg rfl rfl (by constructor)) ?_
 refine yM rfl rfl ?_
 refine yM rfl rfl ?_
 try dsimp only [St.put]
 refine af rfl (bc rfl rfl rfl (pz _ _ _) ?_)
 try dsimp only [St.put]
 refine af rfl (b9 rfl rfl rfl (by decide) (by decide) zR (by decide) ?_)
 try dsimp only [St.put]
 refine af rfl (bc rfl rfl rfl (sw [⟨0, 0, 0⟩]) ?_)
 try dsimp only [St.put]
 refine af rfl (bc rfl rfl rfl (ucz [⟨0, 0, 0⟩]) ?_)
 refine aa rfl (cg rfl rfl (by constructor)) ?_
 refine yM rfl rfl ?_
 try dsimp only [St.put]
 refine af rfl ((ec rfl rfl rfl ((unw n)) zG (by dsimp only [St.put]; omega) ?_))
 refine aa rfl (cg rfl rfl (by constructor)) ?_
 refine yM rfl rfl ?_
 refine yM rfl rfl ?_
 refine aa rfl (ef (fo rfl rfl rfl) (decide_eq_true (by omega))) ?_
 refine aa rfl (cg rfl rfl (by constructor)) ?_
 refine yM rfl rfl ?_
 refine yE rfl rfl rfl ?_
 refine aa rfl (im rfl rfl) ?_
 ((first | refine aa rfl ((ef (c := true) (lk (x := (⟨2, 2⟩ : br)) (y := (⟨2, 2⟩ : br)) rfl rfl rfl) (decide_eq_true rfl))) ?_ | refine ae rfl rfl rfl rfl ((ef (c := true) (lk (x := (⟨2, 2⟩ : br)) (y := (⟨2, 2⟩ : br)) rfl rfl rfl) (decide_eq_true rfl))) ?_ | refine em rfl rfl rfl rfl ((ef (c := true) (lk (x := (⟨2, 2⟩ : br)) (y := (⟨2, 2⟩ : br)) rfl rfl rfl) (decide_eq_true rfl))) ?_ | refine tj rfl rfl rfl ((ef (c := true) (lk (x := (⟨2, 2⟩ : br)) (y := (⟨2, 2⟩ : br)) rfl rfl rfl) (decide_eq_true rfl))) ?_))
 refine aa rfl (cg rfl rfl (by constructor)) ?_
 refine yM rfl rfl ?_
 refine yM rfl rfl ?_
 refine aa rfl (ef (fo rfl rfl rfl) (decide_eq_true (by omega))) ?_
 refine aa rfl (cg rfl rfl (by constructor)) ?_
 refine yM rfl rfl ?_
 refine yE rfl rfl rfl ?_
 refine aa rfl (im rfl rfl) ?_
 ((first | refine aa rfl ((ef (c := true) (lk (x := (⟨0, 1⟩ : br)) (y := (⟨0, 1⟩ : br)) rfl rfl rfl) (decide_eq_true rfl))) ?_ | refine ae rfl rfl rfl rfl ((ef (c := true) (lk (x := (⟨0, 1⟩ : br)) (y := (⟨0, 1⟩ : br)) rfl rfl rfl) (decide_eq_true rfl))) ?_ | refine em rfl rfl rfl rfl ((ef (c := true) (lk (x := (⟨0, 1⟩ : br)) (y := (⟨0, 1⟩ : br)) rfl rfl rfl) (decide_eq_true rfl))) ?_ | refine tj rfl rfl rfl ((ef (c := true) (lk (x := (⟨0, 1⟩ : br)) (y := (⟨0, 1⟩ : br)) rfl rfl rfl) (decide_eq_true rfl))) ?_))
 refine aa rfl (cg rfl rfl (by constructor)) ?_
 refine yM rfl rfl ?_
 refine yM rfl rfl ?_
 refine aa rfl (ef (fo rfl rfl rfl) (decide_eq_true (by omega))) ?_
 refine aa rfl (cg rfl rfl (by constructor)) ?_
 refine yM rfl rfl ?_
 refine yE rfl rfl rfl ?_
 refine aa rfl (im rfl rfl) ?_
 ((first | refine aa rfl ((ef (c := true) (lk (x := (⟨0, 1⟩ : br)) (y := (⟨0, 1⟩ : br)) rfl rfl rfl) (decide_eq_true rfl))) ?_ | refine ae rfl rfl rfl rfl ((ef (c := true) (lk (x := (⟨0, 1⟩ : br)) (y := (⟨0, 1⟩ : br)) rfl rfl rfl) (decide_eq_true rfl))) ?_ | refine em rfl rfl rfl rfl ((ef (c := true) (lk (x := (⟨0, 1⟩ : br)) (y := (⟨0, 1⟩ : br)) rfl rfl rfl) (decide_eq_true rfl))) ?_ | refine tj rfl rfl rfl ((ef (c := true) (lk (x := (⟨0, 1⟩ : br)) (y := (⟨0, 1⟩ : br)) rfl rfl rfl) (decide_eq_true rfl))) ?_))
 refine aa rfl (cg rfl rfl (by constructor)) ?_
 refine yM rfl rfl ?_
 refine yM rfl rfl ?_
 refine aa rfl (ef (fo rfl rfl rfl) (decide_eq_true (by omega))) ?_
 refine aa rfl (cg rfl rfl (by constructor)) ?_
 refine yM rfl rfl ?_
 refine yM rfl rfl ?_
 try dsimp only [St.put]
 refine af rfl (b9 rfl rfl rfl (by decide) (by decide) zR (by decide) ?_)
 try dsimp only [St.put]
 refine af rfl (bc rfl rfl rfl (uc0 [1, 0] (by decide)) ?_)
 refine aa rfl (cg rfl rfl (by constructor)) ?_
 refine yM rfl rfl ?_
 refine yM rfl rfl ?_
 refine aa rfl (ef (fo rfl rfl rfl) (decide_eq_true (by omega))) ?_
 refine aa rfl (cg rfl rfl (by constructor)) ?_
 refine yM rfl rfl ?_
 refine yM rfl rfl ?_
 try dsimp only [St.put]
 refine af rfl (b9 rfl rfl rfl (by decide) (by decide) zR (by decide) ?_)
 try dsimp only [St.put]
 refine af rfl (bc rfl rfl rfl (uc0 [0] (by decide)) ?_)
 refine aa rfl (cg rfl rfl (by constructor)) ?_
 refine yM rfl rfl ?_
 refine yM rfl rfl ?_
 refine aa rfl (bn rfl rfl (List.length_map _)) ?_
 ((first | refine aa rfl ((ef (c := true) (fo rfl rfl rfl) (decide_eq_true rfl))) ?_ | refine ae rfl rfl rfl rfl ((ef (c := true) (fo rfl rfl rfl) (decide_eq_true rfl))) ?_ | refine em rfl rfl rfl rfl ((ef (c := true) (fo rfl rfl rfl) (decide_eq_true rfl))) ?_ | refine tj rfl rfl rfl ((ef (c := true) (fo rfl rfl rfl) (decide_eq_true rfl))) ?_))
 refine aa rfl (cg rfl rfl (by constructor)) ?_
 refine yM rfl rfl ?_
 try dsimp only [St.put]
 refine af rfl (b9 rfl rfl rfl (by decide) (by decide) zR (by decide) ?_)
 try dsimp only [St.put]
 refine af rfl ((ec rfl rfl rfl ((unv n)) zG (by dsimp only [St.put]; omega) ?_))
 refine aa rfl (cg rfl rfl (by constructor)) ?_
 refine yA rfl rfl ?_
 refine yN ?_
 dsimp only [St.put]
 refine K10 _ ?_
 refine ax ?_
 refine bh rfl (by constructor) zN zS ?_
 rfl
theorem ukw (p : ah) : Pure Tryz.prog 22 [val p] (.v (.bool (ql p))) := by
 refine c6 Tryz.func22 rfl (fun m => .v) fun G nx => ?_
 simp only [Tryz.ntmps22, List.length_cons, List.length_nil, Nat.reduceAdd, Nat.reduceSub]
 refine ca fun hlt => ?_
 dsimp only at hlt
 refine yS fun _ K1 => ?_
 refine yR ?_
 try dsimp only [St.put]
 refine yB rfl rfl rfl ?_
 refine yA rfl rfl ?_
 refine yN ?_
 dsimp only [St.put]
 refine K1 _ ?_
 refine yS fun _ K2 => ?_
 refine yR ?_
 refine yE rfl rfl rfl ?_
 try dsimp only [St.put]
 refine af rfl (bc rfl rfl rfl (uid p) ?_)
 refine aa rfl (dw rfl rfl) ?_
 refine yM rfl rfl ?_
 refine ey (fun hs => ?_) (fun hs => ?_)
 ·have h1 : ny p = false := by simpa using hs
  refine yE rfl rfl rfl ?_
  try dsimp only [St.put]
  refine af rfl (bc rfl rfl rfl (uie p) ?_)
  refine aa rfl (fo rfl rfl rfl) ?_
  refine aa rfl (cg rfl rfl (by constructor)) ?_
  refine yA rfl rfl ?_
  refine yN ?_
  dsimp only [St.put]
  refine K2 _ ?_
  refine ax ?_
  refine bh rfl (by constructor) zN zS ?_
  exact vb (by simp [ql, h1])
 have h1 : ny p = true := by simpa using hs
 refine yK rfl ?_
 refine yK rfl ?_
 refine yK rfl ?_
 refine aa rfl (cy rfl rfl (by constructor)) ?_
 refine yA rfl rfl ?_
 refine yN ?_
 dsimp only [St.put]
 refine K2 _ ?_
 refine ax ?_
 refine bh rfl (by constructor) zN zS ?_
 exact vb (by simp [ql, h1])
end Go.Proofs.YtbbdginipiljdaaGreatDoor
namespace Go.AB
open Go Go.RowKit
open Go.AB.Enc (cells)
open Go.PB (az ai PlaceD bg bj bi bv aw ah cx br)
end Go.AB
namespace Go.AB
open Go Go.RowKit
open Go.AB.Enc (cells)
open Go.PB (az ai PlaceD bg bj bi bv aw ah cx br da dh)
theorem ujl {P : Program} {o : Oper} {st : St} {xt yt : TypeId} {x y : Operand} {m n r : Int} (hr : m % n = r) (ho : o.op = .binOp .rem xt x y yt) (hx : evC st x = .v (.int .i64 m)) (hy : evC st y = .v (.int .i64 n)) (hm : 0 ≤ m ∧ m ≤ 9223372036854775807) (hn : 0 < n) : NStep P o st (.v (.int .i64 r)) := hr ▸ n_rem ho hx hy hm hn
section
variable {p : ah} {i : Nat} {x : aw}
theorem v7 (h : cw p = 0) (hx : p.pages[i]? = some x) : el p (i : Int) = 0 := by
 have := (List.getElem?_eq_some_iff.1 hx).1
 unfold el
 rw [decide_eq_true h, cond_true, inB_true.2 (by omega)]
 rfl
theorem ubl (hx : p.pages[i]? = some x) : ly p (i : Int) = x := by
 unfold ly
 rw [Int.toNat_natCast, hx]; rfl
end
end Go.AB
namespace Go.Proofs.YtbbdginipiljdaaGreatDoor
set_option maxRecDepth 10000
open Go Go.RowKit Go.AB
open Go.AB.Enc (cells)
open Go.PB (az ai PlaceD bg bj bi bv aw ah cx br da dh)
section
variable {p : ah} {i : Nat} {x : aw}
theorem ukv (n : Nat) (h : cw p = 0) (hx : p.pages[i]? = some x) : et n eo Tryz.prog 62 [val p, .v (.int .i64 (i : Int))] (.tup [.v (.int .i64 (dl p.text x : Int)), .v (.int .i64 0)]) := by
 have := ubm n p (i : Int)
 rwa [v7 h hx, show na p (i : Int) = (dl p.text x : Int) by unfold na; rw [v7 h hx, ubl hx]; rfl] at this
theorem uk0 (n : Nat) (h : cw p = 0) (hx : p.pages[i]? = some x) : et n eo Tryz.prog 64 [val p, .v (.int .i64 (i : Int))] (.tup [lst (cv p.text x), .v (.int .i64 0)]) := by
 have := ubr n p (i : Int)
 rwa [v7 h hx, show o7 p (i : Int) = cv p.text x by unfold o7; rw [v7 h hx, ubl hx]; rfl] at this
end
end Go.Proofs.YtbbdginipiljdaaGreatDoor
namespace Go.AB
open Go Go.RowKit
open Go.AB.Enc (cells)
open Go.PB (az ai PlaceD bg bj bi bv aw ah cx br da dh)
theorem uac {l : List Int} {k : Nat} {z : Int} (h : l[k]? = some z) : (l.take (k + 1)).sum = (l.take k).sum + z := by
 rw [List.take_add_one, h, Option.toList_some, List.sum_append]; simp
theorem uad {l : List Int} {m : Int} (h0 : 0 ≤ m) (h : ∀ z ∈ l, -m ≤ z ∧ z ≤ m) : ∀ k, k ≤ l.length → -(k * m) ≤ (l.take k).sum ∧ (l.take k).sum ≤ k * m
 | 0, _ => by simp
 | k + 1, hk => by
  have ih := uad h0 h k (by omega)
  have e := List.getElem?_eq_getElem (show k < l.length by omega)
  have hz := h _ (List.mem_of_getElem? e)
  rw [uac e]
  have e2 : ((k + 1 : Nat) : Int) * m = (k : Int) * m + m := by rw [Int.natCast_add, Int.add_mul]; simp
  omega
theorem uj2 {l : List Int} {k : Nat} {z n : Int} (h : l[k]? = some z) : n ∈ l.take (k + 1) ↔ n ∈ l.take k ∨ n = z := by rw [List.take_add_one, h]; simp
theorem z8 {p : ah} (h : dv p) (j : Nat) : 0 ≤ cz p j ∧ cz p j ≤ 600 := by
 refine ⟨ugc p j, ?_⟩
 have hq := m9 h.text
 unfold cz j9
 cases p.pages[j]? with
 | none => show (0 : Int) ≤ 600; omega
 | some x => have := s9 p.text x; show ((cv p.text x).length : Int) ≤ 600; omega
end Go.AB
namespace Go.Proofs.YtbbdginipiljdaaGreatDoor
set_option maxRecDepth 10000
open Go Go.RowKit Go.AB
open Go.AB.Enc (cells)
open Go.PB (az ai PlaceD bg bj bi bv aw ah cx br da dh)
theorem uoe (l : List Int) (hl : l.length ≤ 100) (hb : ∀ z ∈ l, -1000000000 ≤ z ∧ z ≤ 1000000000) : Pure Tryz.prog 30 [lst l] (.v (.int .i64 l.sum)) := by
 refine c6 Tryz.func30 rfl (fun m => .v) fun G nx => ?_
 simp only [Tryz.ntmps30, List.length_cons, List.length_nil, Nat.reduceAdd, Nat.reduceSub]
 refine ca fun hlt => ?_
 dsimp only at hlt
 refine yS fun _ K1 => ?_
 refine yR ?_
 refine yA rfl rfl ?_
 refine yN ?_
 dsimp only [St.put]
 refine K1 _ ?_
 refine yS fun _ K2 => ?_
 refine yR ?_
 refine yA rfl rfl ?_
 refine yN ?_
 dsimp only [St.put]
 refine K2 _ ?_
 refine yS fun _ K3 => ?_
 refine yS fun _ K4 => ?_
 refine yR ?_
 refine yM rfl rfl ?_
 refine aa rfl (bn rfl rfl (List.length_map _)) ?_
 refine yM rfl rfl ?_
 refine yN ?_
 dsimp only [St.put]
 refine K4 _ ?_
 refine bf ?_
 refine ct 9 ?_
 refine zQ ?_
 refine c9 (G) zX ?_
 dsimp only
 refine c8 (X := Nat) (fun k => k ≤ l.length) (fun k => l.length - k) (fun k => [(3, .v (.int .i64 (l.take k).sum)), (5, .any), (8, .v (.int .i64 (k : Int)))]) (fun k G' => G') 0 rfl ?_ ?_ (fun _ _ h => h) ?_ ?_ ?_
 ·exact Nat.zero_le _
 ·exact zF
 ·rintro k hI
  exact zL
 ·exact fun _ _ _ _ h => .inl h
 rintro k hI
 dsimp only at hI ⊢
 refine yS fun _ K5 => ?_
 refine yR ?_
 refine aa rfl (cn rfl rfl rfl) ?_
 refine yN ?_
 dsimp only [St.put]
 refine K5 _ ?_
 refine yS fun _ K6 => ?_
 refine aq rfl (fun hc => ?_) (fun hc => ?_)
 ·replace hc := of_decide_eq_true hc
  obtain ⟨z, hz⟩ : ∃ z, l[k]? = some z := dm (by omega)
  have h1 := uad (m := 1000000000) (by omega) hb k (by omega)
  have h2 := hb z (fy hz)
  refine ay ?_
  refine K6 _ ?_
  refine yS fun _ K7 => ?_
  refine bf ?_
  refine yS fun _ K8 => ?_
  refine yR ?_
  refine aa rfl (bw rfl rfl rfl rfl (bu (by assumption)) (Enc.len _)) ?_
  refine yL rfl rfl rfl ?_
  refine yA rfl rfl ?_
  refine yN ?_
  dsimp only [St.put]
  refine K8 _ ?_
  refine yR ?_
  refine yM rfl rfl ?_
  refine yM rfl rfl ?_
  refine aa rfl (bx rfl rfl rfl (by omega)) ?_
  refine yA rfl rfl ?_
  refine yN ?_
  dsimp only [St.put]
  refine K7 _ ?_
  refine yR ?_
  refine aa rfl (bx rfl rfl rfl (by omega)) ?_
  refine yM rfl rfl ?_
  refine yN ?_
  dsimp only [St.put]
  rw [← uac hz]
  exact ⟨k + 1, by omega, by omega, ⟨⟨rfl, rfl⟩, zF, zB, zN, zX⟩⟩
 replace hc := of_decide_eq_false hc
 refine c7 ?_
 refine K3 _ ?_
 refine yS fun _ K9 => ?_
 refine yR ?_
 refine yM rfl rfl ?_
 refine yA rfl rfl ?_
 refine yN ?_
 dsimp only [St.put]
 refine K9 _ ?_
 refine ax ?_
 refine bh rfl (by constructor) zN zS ?_
 exact vi (by rw [f5 (show l.length ≤ k by omega)])
theorem m4 (l : List Int) (n : Int) (hl : l.length ≤ 100) : Pure Tryz.prog 36 [lst l, .v (.int .i64 n)] (.v (.bool (decide (n ∈ l)))) := by
 refine c6 Tryz.func36 rfl (fun m => .v) fun G nx => ?_
 simp only [Tryz.ntmps36, List.length_cons, List.length_nil, Nat.reduceAdd, Nat.reduceSub]
 refine ca fun hlt => ?_
 dsimp only at hlt
 refine yS fun _ K1 => ?_
 refine yR ?_
 refine yA rfl rfl ?_
 refine yN ?_
 dsimp only [St.put]
 refine K1 _ ?_
 refine yS fun _ K2 => ?_
 refine yS fun _ K3 => ?_
 refine yR ?_
 refine yM rfl rfl ?_
 refine aa rfl (bn rfl rfl (List.length_map _)) ?_
 refine yM rfl rfl ?_
 refine yN ?_
 dsimp only [St.put]
 refine K3 _ ?_
 refine bf ?_
 refine ct 10 ?_
 refine zQ ?_
 refine c9 (G) zX ?_
 dsimp only
 refine c8 (X := Nat) (fun k => k ≤ l.length ∧ n ∉ l.take k) (fun k => l.length - k) (fun k => [(6, .any), (9, .v (.int .i64 (k : Int)))]) (fun k G' => G') 0 rfl ?_ ?_ (fun _ _ h => h) ?_ ?_ ?_
 ·exact ⟨Nat.zero_le _, by simp⟩
 ·exact zF
 ·rintro k hI
  exact zL
 ·exact fun _ _ _ _ h => .inl h
 rintro k hI
 dsimp only at hI ⊢
 refine yS fun _ K4 => ?_
 refine yR ?_
 refine aa rfl (cn rfl rfl rfl) ?_
 refine yN ?_
 dsimp only [St.put]
 refine K4 _ ?_
 refine yS fun _ K5 => ?_
 refine aq rfl (fun hc => ?_) (fun hc => ?_)
 ·replace hc := of_decide_eq_true hc
  obtain ⟨z, hz⟩ : ∃ z, l[k]? = some z := dm (by omega)
  refine ay ?_
  refine K5 _ ?_
  refine yS fun _ K6 => ?_
  refine bf ?_
  refine yS fun _ K7 => ?_
  refine yR ?_
  refine aa rfl (bw rfl rfl rfl rfl (bu (by assumption)) (Enc.len _)) ?_
  refine yL rfl rfl rfl ?_
  refine yA rfl rfl ?_
  refine yN ?_
  dsimp only [St.put]
  refine K7 _ ?_
  refine yS fun _ K8 => ?_
  refine yR ?_
  refine yM rfl rfl ?_
  refine yM rfl rfl ?_
  refine aa rfl (fo rfl rfl rfl) ?_
  refine yN ?_
  dsimp only [St.put]
  refine K8 _ ?_
  refine aq rfl (fun hc => ?_) (fun hc => ?_)
  ·have heq := of_decide_eq_true hc
   refine yS fun _ K9 => ?_
   refine yR ?_
   refine yA rfl rfl ?_
   refine yN ?_
   dsimp only [St.put]
   refine K9 _ ?_
   refine ax ?_
   refine bh rfl (by constructor) zN zS ?_
   exact vb (decide_eq_true (by rw [← heq]; exact fy hz)).symm
  have hne := of_decide_eq_false hc
  refine ay ?_
  refine K6 _ ?_
  refine yR ?_
  refine aa rfl (bx rfl rfl rfl (by omega)) ?_
  refine yM rfl rfl ?_
  refine yN ?_
  dsimp only [St.put]
  exact ⟨k + 1, by omega, ⟨by omega, by rw [uj2 hz]; rintro (h | h); exact hI.2 h; exact hne h.symm⟩, ⟨⟨rfl, rfl⟩, zF, zB, zN, zX⟩⟩
 replace hc := of_decide_eq_false hc
 refine c7 ?_
 refine K2 _ ?_
 refine yS fun _ K10 => ?_
 refine yR ?_
 refine yA rfl rfl ?_
 refine yN ?_
 dsimp only [St.put]
 refine K10 _ ?_
 refine ax ?_
 refine bh rfl (by constructor) zN zS ?_
 exact vb (decide_eq_false (by
  have := hI.2
  rwa [f5 (show l.length ≤ k by omega)] at this)).symm
theorem ukz (n : Nat) (p : ah) (h : cw p = 0) : et n eo Tryz.prog 27 [val p] (.tup [lst (bp p.pages.length (cz p)), .v (.bool true)]) := fun G nx hF hnx => by
 refine ii (G) (nx) Tryz.func27 rfl (.tup (cp (bz _ _) (cp .v dn))) zN (fun hlt => zH) ?_
 simp only [Tryz.ntmps27, List.length_cons, List.length_nil, Nat.reduceAdd, Nat.reduceSub]
 refine ca fun hlt => ?_
 dsimp only at hlt
 have hnp := (ld h).1.np
 refine yS fun _ K1 => ?_
 refine yR ?_
 try dsimp only [St.put]
 refine yB rfl rfl rfl ?_
 refine yA rfl rfl ?_
 refine yA rfl rfl ?_
 refine yN ?_
 dsimp only [St.put]
 refine K1 _ ?_
 refine yS fun _ K2 => ?_
 refine yR ?_
 refine yA rfl rfl ?_
 refine yN ?_
 dsimp only [St.put]
 refine K2 _ ?_
 refine n5 4 3 1 rfl (by decide) ?_
 dsimp only [List.set_cons_zero, List.set_cons_succ]
 refine yS fun _ K3 => ?_
 refine yS fun _ K4 => ?_
 refine yR ?_
 refine yF rfl rfl rfl rfl ?_
 refine yL rfl rfl rfl ?_
 refine aa rfl (bn rfl rfl (List.length_map _)) ?_
 refine yM rfl rfl ?_
 refine yN ?_
 dsimp only [St.put]
 refine K4 _ ?_
 refine bf ?_
 refine ct 12 ?_
 refine zQ ?_
 refine c9 ((am G nx (.tip (bp 0 (cz p)).length 3 1))) zX ?_
 dsimp only
 refine c8 (X := Nat) (fun k => k ≤ p.pages.length) (fun k => p.pages.length - k) (fun k => [(4, .list ((bp k (cz p)).map cells) (.tip nx)), (5, .any), (6, .any), (7, .any), (11, .v (.int .i64 (k : Int)))]) (fun k G' => (am G nx (.tip (bp k (cz p)).length 3 1))) 0 rfl ?_ ?_ ?_ ?_ ?_ ?_
 ·exact Nat.zero_le _
 ·exact zF
 ·exact zX
 ·rintro k hI
  exact zL
 ·rintro k hI
  exact zH
 rintro k hI
 dsimp only at hI ⊢
 refine yS fun _ K5 => ?_
 refine yR ?_
 refine aa rfl (cn rfl rfl rfl) ?_
 refine yN ?_
 dsimp only [St.put]
 refine K5 _ ?_
 refine yS fun _ K6 => ?_
 refine aq rfl (fun hc => ?_) (fun hc => ?_)
 ·replace hc := of_decide_eq_true hc
  obtain ⟨x, hx⟩ : ∃ x, p.pages[k]? = some x := dm (by omega)
  have e := pg k (cz p)
  rw [show cz p k = ((cv p.text x).length : Int) from mr hx _] at e
  have hll := gt k (cz p)
  refine ay ?_
  refine K6 _ ?_
  refine yS fun _ K7 => ?_
  refine bf ?_
  refine yS fun _ K8 => ?_
  refine yR ?_
  refine yM rfl rfl ?_
  refine yA rfl rfl ?_
  refine yN ?_
  dsimp only [St.put]
  refine K8 _ ?_
  refine yS fun _ K9 => ?_
  refine yR ?_
  refine yE rfl rfl rfl ?_
  refine yM rfl rfl ?_
  try dsimp only [St.put]
  refine af rfl ((ec rfl rfl rfl ((uk0 n h hx)) zG (by dsimp only [St.put]; omega) ?_))
  refine yM rfl rfl ?_
  refine yX rfl rfl rfl rfl ?_
  refine yX rfl rfl rfl rfl ?_
  refine yA rfl rfl ?_
  refine yA rfl rfl ?_
  refine yN ?_
  dsimp only [St.put]
  refine K9 _ ?_
  refine yS fun _ K10 => ?_
  refine yS fun _ K11 => ?_
  refine yR ?_
  refine yM rfl rfl ?_
  refine aa rfl (ef (c := false) (fb rfl rfl rfl) (pq rfl)) ?_
  refine yN ?_
  dsimp only [St.put]
  refine K11 _ ?_
  refine aq rfl (fun h => by cases h) (fun _ => ?_)
  refine ay ?_
  refine K10 _ ?_
  refine yR ?_
  refine yM rfl rfl ?_
  refine yM rfl rfl ?_
  refine aa rfl (bn rfl rfl (List.length_map _)) ?_
  try dsimp only [St.put]
  refine af rfl (b9 rfl rfl rfl (by decide) (by decide) zR (by decide) ?_)
  try dsimp only [St.put]
  refine af rfl (ce ([((cv p.text x).length : Int)]) rfl rfl zG zE rfl rfl zA ?_ zA)
  refine yA rfl rfl ?_
  refine yN ?_
  dsimp only [St.put]
  refine K7 _ ?_
  refine yR ?_
  refine aa rfl (bx rfl rfl rfl (by omega)) ?_
  refine yM rfl rfl ?_
  refine yN ?_
  dsimp only [St.put]
  rw [← e]
  exact ⟨k + 1, by omega, by omega, ⟨⟨rfl, rfl⟩, zF, zB, zN, zX⟩⟩
 replace hc := of_decide_eq_false hc
 obtain rfl : k = p.pages.length := by omega
 refine c7 ?_
 refine K3 _ ?_
 refine yS fun _ K12 => ?_
 refine yR ?_
 refine yM rfl rfl ?_
 refine yA rfl rfl ?_
 refine yA rfl rfl ?_
 refine yN ?_
 dsimp only [St.put]
 refine K12 _ ?_
 refine ax ?_
 refine g8 rfl (ed (by constructor)) (ed (by constructor)) zN zS ?_ ?_
 ·exact zW
 exact zW
theorem uku (n : Nat) (p : ah) (h : fh p (cw p) = 0) : et n eo Tryz.prog 15 [val p] (.tup [lst (bp p.pages.length (f3 p)), .v (.int .i64 0)]) := by
 have := xl n p
 rwa [h, show mj p = bp p.pages.length (f3 p) by unfold mj; rw [h]; rfl] at this
end Go.Proofs.YtbbdginipiljdaaGreatDoor
namespace Go.PB
/-- what is told of all pages and readers -/
structure pc where
 words : List Int
 told : List Int
 firsts : List Int
 seconds : List Int
end Go.PB
namespace Go.AB
open Go Go.RowKit
open Go.AB.Enc (cells)
open Go.PB (az ai PlaceD bg bj bi bv aw ah cx br da dh pc)
instance : Enc pc := ⟨fun x => [lst x.words, lst x.told, lst x.firsts, lst x.seconds], 4, fun _ => rfl, fun m x c h => by
 simp only [List.mem_cons, List.not_mem_nil, or_false] at h
 rcases h with rfl | rfl | rfl | rfl
 ·exact bz m _
 ·exact bz m _
 ·exact bz m _
 ·exact bz m _, fun x c h => by
 simp only [List.mem_cons, List.not_mem_nil, or_false] at h; rcases h with rfl | rfl | rfl | rfl <;> rfl⟩
def o1 (p : ah) : pc := ⟨bp p.pages.length (f4 p), bp p.pages.length (cz p), bp p.firsts.length (dd p false), bp p.seconds.length (dd p true)⟩
theorem Rs.wk {E : Env} {w : World} : ∀ {cs cs' : List C} {vs : List Value}, Wks cs cs' → Rs E w cs vs → Rs E w cs' vs := fun {cs cs' vs} hw h =>
 ⟨hw.len ▸ h.1, fun j c v hj hv => by
  obtain ⟨c0, h1, h2⟩ := hw.get j c hj
  exact h2.2 _ _ _ (h.2 j c0 v h1 hv)⟩
theorem Pure.wk {P : Program} {f : FuncId} {al bl : List C} {r : C} (h : Pure P f bl r) (hw : Wks al bl) : Pure P f al r := fun G nx E w vs h3 h4 => h G nx E w vs (h3.wk hw) h4
theorem uil {p : ah} (h : dv p) (F S but : List Int) (j : Nat) : -1200 ≤ cj p F S but j ∧ cj p F S but j ≤ 1200 := by
 have h1 := z8 h j
 have h2 := vy h j
 unfold cj j9
 unfold cz j9 at h1
 unfold dg j9 at h2
 cases hx : p.pages[j]? with
 | none => show (-1200 : Int) ≤ 0 ∧ (0 : Int) ≤ 1200; omega
 | some x =>
  rw [hx] at h1 h2
  dsimp only at h1 h2 ⊢
  cases !decide (x.fst ∈ F) && !decide (x.snd ∈ S) && !decide ((j : Int) ∈ but) <;> cases decide (x.fst ∈ F) <;> cases decide (x.snd ∈ S) <;> simp only [cond_true, cond_false] <;> omega
theorem uae {p : ah} (h : dv p) (F S but : List Int) (k : Nat) (hk : k ≤ 8) : -9600 ≤ sm k (cj p F S but) ∧ sm k (cj p F S but) ≤ 9600 := by
 have := ud (g := cj p F S but) (m := 1200) (fun j => uil h F S but j) k
 omega
theorem ez (k : Nat) (g : Nat → Int) : sm (k + 1) g = sm k g + g k := rfl
theorem uc6 {l : List Int} {g : Int → Int} {k : Nat} {z : Int} (h : l[k]? = some z) : io (l.take (k + 1)) g = io (l.take k) g + g z := by
 rw [List.take_add_one, h, Option.toList_some, uc7]
theorem vh {g : Int → Int} (hg : ∀ z, 0 ≤ g z ∧ g z ≤ 48000) : ∀ l : List Int, 0 ≤ io l g ∧ io l g ≤ l.length * 48000
 | [] => by simp [io]
 | z :: l => by
  have ih := vh hg l
  have := hg z
  have e : io (z :: l) g = g z + io l g := by simp [io]
  have e2 : ((z :: l).length : Int) * 48000 = (l.length : Int) * 48000 + 48000 := by rw [List.length_cons, Int.natCast_add, Int.add_mul]; simp
  omega
end Go.AB
namespace Go.Proofs.YtbbdginipiljdaaGreatDoor
set_option maxRecDepth 10000
open Go Go.RowKit Go.AB
open Go.AB.Enc (cells)
open Go.PB (az ai PlaceD bg bj bi bv aw ah cx br da dh pc)
theorem uc3 (n : Nat) (p : ah) (b : Bool) (h : cw p = 0) {i : Nat} (hi : i < (du p b).length) : et n eo Tryz.prog 29 [val p, .v (.bool b), .v (.int .i64 (i : Int))] (.tup [.v (.int .i64 (dd p b i)), .v (.int .i64 0)]) := by
 have := ubs n p b (i : Int)
 have e : jw p b (i : Int) = 0 := by
  unfold jw
  rw [decide_eq_true h, cond_true, inB_true.2 (by omega)]; rfl
 rwa [e, show mc p b (i : Int) = dd p b i by unfold mc; rw [e, Int.toNat_natCast]; rfl] at this
set_option maxHeartbeats 2000000 in
theorem uk5 (n : Nat) (p : ah) (h : cw p = 0) : et n eo Tryz.prog 31 [val p] (.tup [val (o1 p), .v (.bool true)]) := fun G nx hF hnx => by
 refine ii (G) (nx) Tryz.func31 rfl (.tup (cp (ei _ _) (cp .v dn))) zN (fun hlt => zH) ?_
 simp only [Tryz.ntmps31, List.length_cons, List.length_nil, Nat.reduceAdd, Nat.reduceSub]
 refine ca fun hlt => ?_
 dsimp only at hlt
 have hok := (ld h).1
 have hn1 := hok.nf
 have hn2 := hok.ns
 have hnp := hok.np
 have hal := m9 hok.text
 have hs1 : (du p false).length = p.firsts.length := rfl
 have hs2 : (du p true).length = p.seconds.length := rfl
 refine yS fun _ K1 => ?_
 refine yR ?_
 try dsimp only [St.put]
 refine yB rfl rfl rfl ?_
 try dsimp only [St.put]
 refine af rfl (d7 rfl ?_)
 refine yA rfl rfl ?_
 refine yN ?_
 dsimp only [St.put]
 refine K1 _ ?_
 refine yS fun _ K2 => ?_
 refine yR ?_
 try dsimp only [St.put]
 refine af rfl (d7 rfl ?_)
 refine yN ?_
 dsimp only [St.put]
 refine K2 _ ?_
 refine n4 (nx + 1) 0 _ _ 3 1 zG rfl (by decide) ?_
 refine n4 (nx + 1) 2 _ _ 3 1 zG rfl (by decide) ?_
 refine n4 (nx + 1) 3 _ _ 3 1 zG rfl (by decide) ?_
 dsimp only [List.set_cons_zero, List.set_cons_succ]
 refine yS fun _ K3 => ?_
 refine yR ?_
 refine yE rfl rfl rfl ?_
 try dsimp only [St.put]
 refine af rfl ((ec rfl rfl rfl ((ukz n p h)) zG (by dsimp only [St.put]; omega) ?_))
 refine yM rfl rfl ?_
 refine yX rfl rfl rfl rfl ?_
 refine yX rfl rfl rfl rfl ?_
 refine yA rfl rfl ?_
 refine yA rfl rfl ?_
 refine yN ?_
 dsimp only [St.put]
 refine K3 _ ?_
 refine yS fun _ K4 => ?_
 refine yS fun _ K5 => ?_
 refine yR ?_
 refine yM rfl rfl ?_
 refine aa rfl (dw rfl rfl) ?_
 refine yN ?_
 dsimp only [St.put]
 refine K5 _ ?_
 refine aq rfl (fun h => by cases h) (fun _ => ?_)
 refine ay ?_
 refine K4 _ ?_
 refine yS fun _ K6 => ?_
 refine yR ?_
 refine yM rfl rfl ?_
 refine aa rfl (bk rfl rfl) ?_
 try dsimp only [St.put]
 refine af rfl (cc rfl rfl rfl zG (by constructor) rfl (by show 1 < 4; decide) ?_)
 refine yN ?_
 dsimp only [St.put]
 refine K6 _ ?_
 refine yS fun _ K7 => ?_
 refine yS fun _ K8 => ?_
 refine yR ?_
 refine yF rfl rfl rfl rfl ?_
 refine yL rfl rfl rfl ?_
 refine aa rfl (bn rfl rfl (List.length_map _)) ?_
 refine yM rfl rfl ?_
 refine yN ?_
 dsimp only [St.put]
 refine K8 _ ?_
 refine bf ?_
 refine ct 30 ?_
 refine zQ ?_
 refine c9 ((am (am (am (am (am G nx (.box 0 [.list [] .nil, .list [] .nil, .list [] .nil, .list [] .nil])) (nx + 1) (.box (1) [.list ((bp 0 (f4 p)).map cells) (.tip (nx + 1 + 1)), lst (bp p.pages.length (cz p)), .list ((bp 0 (dd p false)).map cells) (.tip (nx + 1 + 1 + 1)), .list ((bp 0 (dd p true)).map cells) (.tip (nx + 1 + 1 + 1 + 1))])) (nx + 1 + 1) (.tip (bp 0 (f4 p)).length 3 1)) (nx + 1 + 1 + 1) (.tip (bp 0 (dd p false)).length 3 1)) (nx + 1 + 1 + 1 + 1) (.tip (bp 0 (dd p true)).length 3 1))) zX ?_
 dsimp only
 refine c8 (X := Nat) (fun k => k ≤ p.pages.length) (fun k => p.pages.length - k) (fun k => [(7, .any), (8, .any), (9, .any), (29, .v (.int .i64 (k : Int)))]) (fun k G' => (am (am (am (am (am G nx (.box 0 [.list [] .nil, .list [] .nil, .list [] .nil, .list [] .nil])) (nx + 1) (.box ((1 + k)) [.list ((bp k (f4 p)).map cells) (.tip (nx + 1 + 1)), lst (bp p.pages.length (cz p)), .list ((bp 0 (dd p false)).map cells) (.tip (nx + 1 + 1 + 1)), .list ((bp 0 (dd p true)).map cells) (.tip (nx + 1 + 1 + 1 + 1))])) (nx + 1 + 1) (.tip (bp k (f4 p)).length 3 1)) (nx + 1 + 1 + 1) (.tip (bp 0 (dd p false)).length 3 1)) (nx + 1 + 1 + 1 + 1) (.tip (bp 0 (dd p true)).length 3 1))) 0 rfl ?_ ?_ ?_ ?_ ?_ ?_
 ·exact Nat.zero_le _
 ·exact zF
 ·exact zX
 ·rintro k hI
  exact zL
 ·rintro k hI
  exact zH
 rintro k hI
 dsimp only at hI ⊢
 refine yS fun _ K9 => ?_
 refine yR ?_
 refine aa rfl (cn rfl rfl rfl) ?_
 refine yN ?_
 dsimp only [St.put]
 refine K9 _ ?_
 refine yS fun _ K10 => ?_
 refine aq rfl (fun hc => ?_) (fun hc => ?_)
 ·replace hc := of_decide_eq_true hc
  obtain ⟨x, hx⟩ : ∃ x, p.pages[k]? = some x := dm (by omega)
  have e := pg k (f4 p)
  rw [show f4 p k = (dl p.text x : Int) from mr hx _] at e
  have hll := gt k (f4 p)
  have hwx := rm p.text x
  refine ay ?_
  refine K10 _ ?_
  refine yS fun _ K11 => ?_
  refine bf ?_
  refine yS fun _ K12 => ?_
  refine yR ?_
  refine yM rfl rfl ?_
  refine yA rfl rfl ?_
  refine yN ?_
  dsimp only [St.put]
  refine K12 _ ?_
  refine yS fun _ K13 => ?_
  refine yR ?_
  refine yE rfl rfl rfl ?_
  refine yM rfl rfl ?_
  try dsimp only [St.put]
  refine af rfl ((ec rfl rfl rfl ((ukv n h hx)) zG (by dsimp only [St.put]; omega) ?_))
  refine yM rfl rfl ?_
  refine yX rfl rfl rfl rfl ?_
  refine yX rfl rfl rfl rfl ?_
  refine yA rfl rfl ?_
  refine yA rfl rfl ?_
  refine yN ?_
  dsimp only [St.put]
  refine K13 _ ?_
  refine yS fun _ K14 => ?_
  refine yS fun _ K15 => ?_
  refine yR ?_
  refine yM rfl rfl ?_
  refine aa rfl (ef (c := false) (fb rfl rfl rfl) (pq rfl)) ?_
  refine yN ?_
  dsimp only [St.put]
  refine K15 _ ?_
  refine aq rfl (fun h => by cases h) (fun _ => ?_)
  refine ay ?_
  refine K14 _ ?_
  refine yR ?_
  refine aa rfl (bk rfl rfl) ?_
  try dsimp only [St.put]
  refine ck rfl (fl rfl rfl zG trivial (by first | rfl | assumption)) ?_
  refine yM rfl rfl ?_
  try dsimp only [St.put]
  refine af rfl (b9 rfl rfl rfl (by decide) (by decide) zR (by decide) ?_)
  try dsimp only [St.put]
  refine af rfl (ce ([(dl p.text x : Int)]) rfl rfl zG zE rfl rfl zA ?_ zA)
  refine aa rfl (bk rfl rfl) ?_
  try dsimp only [St.put]
  refine af rfl (cc rfl rfl rfl zG (by constructor) rfl zO ?_)
  refine yN ?_
  dsimp only [St.put]
  refine K11 _ ?_
  refine yR ?_
  refine aa rfl (bx rfl rfl rfl (by omega)) ?_
  refine yM rfl rfl ?_
  refine yN ?_
  dsimp only [St.put]
  rw [← e]
  exact ⟨k + 1, by omega, by omega, ⟨⟨rfl, rfl⟩, zF, zB, zN, zX⟩⟩
 replace hc := of_decide_eq_false hc
 obtain rfl : k = p.pages.length := by omega
 refine c7 ?_
 refine K7 _ ?_
 refine yS fun _ K16 => ?_
 refine yS fun _ K17 => ?_
 refine yR ?_
 refine yF rfl rfl rfl rfl ?_
 refine yL rfl rfl rfl ?_
 refine aa rfl (bn rfl rfl (List.length_map _)) ?_
 refine yM rfl rfl ?_
 refine yN ?_
 dsimp only [St.put]
 refine K17 _ ?_
 refine bf ?_
 refine ct 52 ?_
 refine zQ ?_
 refine c9 ((am (am (am (am (am G nx (.box 0 [.list [] .nil, .list [] .nil, .list [] .nil, .list [] .nil])) (nx + 1) (.box ((1 + p.pages.length)) [.list ((bp p.pages.length (f4 p)).map cells) (.tip (nx + 1 + 1)), lst (bp p.pages.length (cz p)), .list ((bp 0 (dd p false)).map cells) (.tip (nx + 1 + 1 + 1)), .list ((bp 0 (dd p true)).map cells) (.tip (nx + 1 + 1 + 1 + 1))])) (nx + 1 + 1) (.tip (bp p.pages.length (f4 p)).length 3 1)) (nx + 1 + 1 + 1) (.tip (bp 0 (dd p false)).length 3 1)) (nx + 1 + 1 + 1 + 1) (.tip (bp 0 (dd p true)).length 3 1))) zX ?_
 dsimp only
 refine c8 (X := Nat) (fun i => i ≤ p.firsts.length) (fun i => p.firsts.length - i) (fun i => [(10, .any), (11, .any), (12, .any), (51, .v (.int .i64 (i : Int)))]) (fun i G' => (am (am (am (am (am G nx (.box 0 [.list [] .nil, .list [] .nil, .list [] .nil, .list [] .nil])) (nx + 1) (.box ((1 + p.pages.length + i)) [.list ((bp p.pages.length (f4 p)).map cells) (.tip (nx + 1 + 1)), lst (bp p.pages.length (cz p)), .list ((bp i (dd p false)).map cells) (.tip (nx + 1 + 1 + 1)), .list ((bp 0 (dd p true)).map cells) (.tip (nx + 1 + 1 + 1 + 1))])) (nx + 1 + 1) (.tip (bp p.pages.length (f4 p)).length 3 1)) (nx + 1 + 1 + 1) (.tip (bp i (dd p false)).length 3 1)) (nx + 1 + 1 + 1 + 1) (.tip (bp 0 (dd p true)).length 3 1))) 0 rfl ?_ ?_ ?_ ?_ ?_ ?_
 ·exact Nat.zero_le _
 ·exact zF
 ·exact zX
 ·rintro i hI
  exact zL
 ·rintro i hI
  exact zH
 rintro i hJ
 dsimp only at hJ ⊢
 refine yS fun _ K18 => ?_
 refine yR ?_
 refine aa rfl (cn rfl rfl rfl) ?_
 refine yN ?_
 dsimp only [St.put]
 refine K18 _ ?_
 refine yS fun _ K19 => ?_
 refine aq rfl (fun hc => ?_) (fun hc => ?_)
 ·replace hc := of_decide_eq_true hc
  have e := pg i (dd p false)
  have hll := gt i (dd p false)
  have hbb := n3 hok false i
  refine ay ?_
  refine K19 _ ?_
  refine yS fun _ K20 => ?_
  refine bf ?_
  refine yS fun _ K21 => ?_
  refine yR ?_
  refine yM rfl rfl ?_
  refine yA rfl rfl ?_
  refine yN ?_
  dsimp only [St.put]
  refine K21 _ ?_
  refine yS fun _ K22 => ?_
  refine yR ?_
  refine yE rfl rfl rfl ?_
  refine yM rfl rfl ?_
  try dsimp only [St.put]
  refine af rfl ((ec rfl rfl rfl ((uc3 n p false h (i := i) (by omega))) zG (by dsimp only [St.put]; omega) ?_))
  refine yM rfl rfl ?_
  refine yX rfl rfl rfl rfl ?_
  refine yX rfl rfl rfl rfl ?_
  refine yA rfl rfl ?_
  refine yA rfl rfl ?_
  refine yN ?_
  dsimp only [St.put]
  refine K22 _ ?_
  refine yS fun _ K23 => ?_
  refine yS fun _ K24 => ?_
  refine yR ?_
  refine yM rfl rfl ?_
  refine aa rfl (ef (c := false) (fb rfl rfl rfl) (pq rfl)) ?_
  refine yN ?_
  dsimp only [St.put]
  refine K24 _ ?_
  refine aq rfl (fun h => by cases h) (fun _ => ?_)
  refine ay ?_
  refine K23 _ ?_
  refine yR ?_
  refine aa rfl (bk rfl rfl) ?_
  try dsimp only [St.put]
  refine ck rfl (fl rfl rfl zG trivial (by first | rfl | assumption)) ?_
  refine yM rfl rfl ?_
  try dsimp only [St.put]
  refine af rfl (b9 rfl rfl rfl (by decide) (by decide) zR (by decide) ?_)
  try dsimp only [St.put]
  refine af rfl (ce ([dd p false i]) rfl rfl zG zE rfl rfl zA ?_ zA)
  refine aa rfl (bk rfl rfl) ?_
  try dsimp only [St.put]
  refine af rfl (cc rfl rfl rfl zG (by constructor) rfl zO ?_)
  refine yN ?_
  dsimp only [St.put]
  refine K20 _ ?_
  refine yR ?_
  refine aa rfl (bx rfl rfl rfl (by omega)) ?_
  refine yM rfl rfl ?_
  refine yN ?_
  dsimp only [St.put]
  rw [← e]
  exact ⟨i + 1, by omega, by omega, ⟨⟨rfl, rfl⟩, zF, zB, zN, zX⟩⟩
 replace hc := of_decide_eq_false hc
 obtain rfl : i = p.firsts.length := by omega
 refine c7 ?_
 refine K16 _ ?_
 refine yS fun _ K25 => ?_
 refine yS fun _ K26 => ?_
 refine yR ?_
 refine yF rfl rfl rfl rfl ?_
 refine yL rfl rfl rfl ?_
 refine aa rfl (bn rfl rfl (List.length_map _)) ?_
 refine yM rfl rfl ?_
 refine yN ?_
 dsimp only [St.put]
 refine K26 _ ?_
 refine bf ?_
 refine ct 74 ?_
 refine zQ ?_
 refine c9 ((am (am (am (am (am G nx (.box 0 [.list [] .nil, .list [] .nil, .list [] .nil, .list [] .nil])) (nx + 1) (.box ((1 + p.pages.length + p.firsts.length)) [.list ((bp p.pages.length (f4 p)).map cells) (.tip (nx + 1 + 1)), lst (bp p.pages.length (cz p)), .list ((bp p.firsts.length (dd p false)).map cells) (.tip (nx + 1 + 1 + 1)), .list ((bp 0 (dd p true)).map cells) (.tip (nx + 1 + 1 + 1 + 1))])) (nx + 1 + 1) (.tip (bp p.pages.length (f4 p)).length 3 1)) (nx + 1 + 1 + 1) (.tip (bp p.firsts.length (dd p false)).length 3 1)) (nx + 1 + 1 + 1 + 1) (.tip (bp 0 (dd p true)).length 3 1))) zX ?_
 dsimp only
 refine c8 (X := Nat) (fun j => j ≤ p.seconds.length) (fun j => p.seconds.length - j) (fun j => [(13, .any), (14, .any), (15, .any), (73, .v (.int .i64 (j : Int)))]) (fun j G' => (am (am (am (am (am G nx (.box 0 [.list [] .nil, .list [] .nil, .list [] .nil, .list [] .nil])) (nx + 1) (.box ((1 + p.pages.length + p.firsts.length + j)) [.list ((bp p.pages.length (f4 p)).map cells) (.tip (nx + 1 + 1)), lst (bp p.pages.length (cz p)), .list ((bp p.firsts.length (dd p false)).map cells) (.tip (nx + 1 + 1 + 1)), .list ((bp j (dd p true)).map cells) (.tip (nx + 1 + 1 + 1 + 1))])) (nx + 1 + 1) (.tip (bp p.pages.length (f4 p)).length 3 1)) (nx + 1 + 1 + 1) (.tip (bp p.firsts.length (dd p false)).length 3 1)) (nx + 1 + 1 + 1 + 1) (.tip (bp j (dd p true)).length 3 1))) 0 rfl ?_ ?_ ?_ ?_ ?_ ?_
 ·exact Nat.zero_le _
 ·exact zF
 ·exact zX
 ·rintro j hI
  exact zL
 ·rintro j hI
  exact zH
 rintro j hM
 dsimp only at hM ⊢
 refine yS fun _ K27 => ?_
 refine yR ?_
 refine aa rfl (cn rfl rfl rfl) ?_
 refine yN ?_
 dsimp only [St.put]
 refine K27 _ ?_
 refine yS fun _ K28 => ?_
 refine aq rfl (fun hc => ?_) (fun hc => ?_)
 ·replace hc := of_decide_eq_true hc
  have e := pg j (dd p true)
  have hll := gt j (dd p true)
  have hbb := n3 hok true j
  refine ay ?_
  refine K28 _ ?_
  refine yS fun _ K29 => ?_
  refine bf ?_
  refine yS fun _ K30 => ?_
  refine yR ?_
  refine yM rfl rfl ?_
  refine yA rfl rfl ?_
  refine yN ?_
  dsimp only [St.put]
  refine K30 _ ?_
  refine yS fun _ K31 => ?_
  refine yR ?_
  refine yE rfl rfl rfl ?_
  refine yM rfl rfl ?_
  try dsimp only [St.put]
  refine af rfl ((ec rfl rfl rfl ((uc3 n p true h (i := j) (by omega))) zG (by dsimp only [St.put]; omega) ?_))
  refine yM rfl rfl ?_
  refine yX rfl rfl rfl rfl ?_
  refine yX rfl rfl rfl rfl ?_
  refine yA rfl rfl ?_
  refine yA rfl rfl ?_
  refine yN ?_
  dsimp only [St.put]
  refine K31 _ ?_
  refine yS fun _ K32 => ?_
  refine yS fun _ K33 => ?_
  refine yR ?_
  refine yM rfl rfl ?_
  refine aa rfl (ef (c := false) (fb rfl rfl rfl) (pq rfl)) ?_
  refine yN ?_
  dsimp only [St.put]
  refine K33 _ ?_
  refine aq rfl (fun h => by cases h) (fun _ => ?_)
  refine ay ?_
  refine K32 _ ?_
  refine yR ?_
  refine aa rfl (bk rfl rfl) ?_
  try dsimp only [St.put]
  refine ck rfl (fl rfl rfl zG trivial (by first | rfl | assumption)) ?_
  refine yM rfl rfl ?_
  try dsimp only [St.put]
  refine af rfl (b9 rfl rfl rfl (by decide) (by decide) zR (by decide) ?_)
  try dsimp only [St.put]
  refine af rfl (ce ([dd p true j]) rfl rfl zG zE rfl rfl zA ?_ zA)
  refine aa rfl (bk rfl rfl) ?_
  try dsimp only [St.put]
  refine af rfl (cc rfl rfl rfl zG (by constructor) rfl zO ?_)
  refine yN ?_
  dsimp only [St.put]
  refine K29 _ ?_
  refine yR ?_
  refine aa rfl (bx rfl rfl rfl (by omega)) ?_
  refine yM rfl rfl ?_
  refine yN ?_
  dsimp only [St.put]
  rw [← e]
  exact ⟨j + 1, by omega, by omega, ⟨⟨rfl, rfl⟩, zF, zB, zN, zX⟩⟩
 replace hc := of_decide_eq_false hc
 obtain rfl : j = p.seconds.length := by omega
 refine v6 (nx + 1) (1 + p.pages.length + p.firsts.length + p.seconds.length) (cells (o1 p)) zG zW ?_
 refine c7 ?_
 refine K25 _ ?_
 refine yS fun _ K34 => ?_
 refine yR ?_
 try dsimp only [St.put]
 refine ck rfl (i1 rfl rfl zG trivial (by rfl)) ?_
 try dsimp only [St.put]
 refine af rfl (dj rfl rfl rfl zG rfl rfl (by rfl) ?_)
 refine yA rfl rfl ?_
 refine yN ?_
 dsimp only [St.put]
 refine K34 _ ?_
 refine ax ?_
 refine g8 rfl (jy rfl zG (by rfl) zC rfl) (ed (by constructor)) zN zS ?_ ?_
 ·exact zW
 exact zW
set_option maxHeartbeats 2000000 in
theorem uc1 (p : ah) (F S but : List Int) (h : dv p) (hF : ∀ z ∈ F, 0 ≤ z ∧ z < (p.firsts.length : Int)) (hS : ∀ z ∈ S, 0 ≤ z ∧ z < (p.seconds.length : Int)) (lF : F.length ≤ 20) (lS : S.length ≤ 20) (lB : but.length ≤ 20) : Pure Tryz.prog 32 [val (o1 p), val p, lst F, lst S, lst but] (.v (.int .i64 (nj p F S but))) := by
 refine c6 Tryz.func32 rfl (fun m => .v) fun G nx => ?_
 simp only [Tryz.ntmps32, List.length_cons, List.length_nil, Nat.reduceAdd, Nat.reduceSub]
 refine ca fun hlt => ?_
 dsimp only at hlt
 have hnp := h.np
 have hl1 := gt p.pages.length (f4 p)
 have hl2 := gt p.pages.length (cz p)
 have hl3 := gt p.firsts.length (dd p false)
 have hk3 : (o1 p).firsts.length = p.firsts.length := gt _ _
 have hk4 : (o1 p).seconds.length = p.seconds.length := gt _ _
 have hl4 := gt p.seconds.length (dd p true)
 refine yS fun _ K1 => ?_
 refine yR ?_
 try dsimp only [St.put]
 refine yB rfl rfl rfl ?_
 try dsimp only [St.put]
 refine yB rfl rfl rfl ?_
 refine yA rfl rfl ?_
 refine yN ?_
 dsimp only [St.put]
 refine K1 _ ?_
 refine yS fun _ K2 => ?_
 refine yR ?_
 refine yA rfl rfl ?_
 refine yN ?_
 dsimp only [St.put]
 refine K2 _ ?_
 refine yS fun _ K3 => ?_
 refine yS fun _ K4 => ?_
 refine yR ?_
 refine yF rfl rfl rfl rfl ?_
 refine yL rfl rfl rfl ?_
 refine aa rfl (bn rfl rfl (List.length_map _)) ?_
 refine yM rfl rfl ?_
 refine yN ?_
 dsimp only [St.put]
 refine K4 _ ?_
 refine bf ?_
 refine ct 22 ?_
 refine zQ ?_
 refine c9 (G) zX ?_
 dsimp only
 refine c8 (X := Nat) (fun k => k ≤ p.pages.length) (fun k => p.pages.length - k) (fun k => [(11, .v (.int .i64 (sm k (cj p F S but)))), (12, .any), (13, .any), (21, .v (.int .i64 (k : Int)))]) (fun k G' => G') 0 rfl ?_ ?_ (fun _ _ h => h) ?_ ?_ ?_
 ·exact Nat.zero_le _
 ·exact zF
 ·rintro k hI
  exact zL
 ·exact fun _ _ _ _ h => .inl h
 rintro k hI
 dsimp only at hI ⊢
 refine yS fun _ K5 => ?_
 refine yR ?_
 refine aa rfl (cn rfl rfl rfl) ?_
 refine yN ?_
 dsimp only [St.put]
 refine K5 _ ?_
 refine yS fun _ K6 => ?_
 refine aq rfl (fun hc => ?_) (fun hc => ?_)
 ·replace hc := of_decide_eq_true hc
  obtain ⟨x, hx⟩ : ∃ x, p.pages[k]? = some x := dm (by omega)
  have hkl : k < p.pages.length := by omega
  have e : cj p F S but k = (bif !decide (x.fst ∈ F) && !decide (x.snd ∈ S) && !decide ((k : Int) ∈ but) then f4 p k - cz p k else 0) - (bif decide (x.fst ∈ F) then cz p k else 0) - (bif decide (x.snd ∈ S) then cz p k else 0) := by
   unfold cj f4 cz
   rw [mr hx, mr hx, mr hx]; rfl
  have hw := ufx h k
  have ht := z8 h k
  have hsb := uae h F S but k (by omega)
  have hgw := j4 (f4 p) hkl
  have hgt := j4 (cz p) hkl
  refine ay ?_
  refine K6 _ ?_
  refine yS fun _ K7 => ?_
  refine bf ?_
  refine yS fun _ K8 => ?_
  refine yR ?_
  refine yM rfl rfl ?_
  refine aa rfl (bw rfl rfl rfl rfl (bu (by assumption)) (Enc.len _)) ?_
  refine yE rfl rfl rfl ?_
  try dsimp only [St.put]
  refine af rfl (d7 rfl ?_)
  refine yA rfl rfl ?_
  try dsimp only [St.put]
  refine af rfl (dj rfl rfl rfl zG rfl rfl (by rfl) ?_)
  refine yN ?_
  dsimp only [St.put]
  refine K8 _ ?_
  refine gp (i := 13) rfl zG zC ?_
  dsimp only
  refine yS fun _ K9 => ?_
  refine ct 22 ?_
  refine zQ ?_
  refine km (X := Bool) (fun d => (!decide (x.fst ∈ F) && !decide (x.snd ∈ S) && !decide ((k : Int) ∈ but)) = d) (fun d => [(43, .v (.bool d))]) (fun d G' => G') rfl ?_ (fun _ _ _ _ h => .inl h) ?_ ?_
  ·rintro d hI
   exact zL
  ·refine yR ?_
   refine yM rfl rfl ?_
   refine yF rfl rfl rfl rfl ?_
   refine yL rfl rfl rfl ?_
   try dsimp only [St.put]
   refine af rfl (bc rfl rfl rfl (m4 F x.fst (by omega)) ?_)
   refine aa rfl (dw rfl rfl) ?_
   refine ey (fun hs => ?_) (fun hs => ?_)
   ·have c1 : decide (x.fst ∈ F) = false := by simpa using hs
    refine yM rfl rfl ?_
    refine yM rfl rfl ?_
    refine yF rfl rfl rfl rfl ?_
    refine yL rfl rfl rfl ?_
    try dsimp only [St.put]
    refine af rfl (bc rfl rfl rfl (m4 S x.snd (by omega)) ?_)
    refine aa rfl (dw rfl rfl) ?_
    refine aa rfl (cg rfl rfl (by constructor)) ?_
    refine ey (fun hs => ?_) (fun hs => ?_)
    ·have c2 : decide (x.snd ∈ S) = false := by simpa using hs
     refine yM rfl rfl ?_
     refine yM rfl rfl ?_
     refine yM rfl rfl ?_
     try dsimp only [St.put]
     refine af rfl (bc rfl rfl rfl (m4 but (k : Int) (by omega)) ?_)
     refine aa rfl (dw rfl rfl) ?_
     refine aa rfl (cg rfl rfl (by constructor)) ?_
     refine yN ?_
     dsimp only [St.put]
     refine ⟨_, ?_, ⟨⟨rfl, rfl⟩, zF, zB, zN, zX⟩⟩
     simp_all
    have c2 : decide (x.snd ∈ S) = true := by simpa using hs
    refine yM rfl rfl ?_
    refine yK rfl ?_
    refine yK rfl ?_
    refine yK rfl ?_
    refine yK rfl ?_
    refine aa rfl (cy rfl rfl (by constructor)) ?_
    refine yN ?_
    dsimp only [St.put]
    refine ⟨_, ?_, ⟨⟨rfl, rfl⟩, zF, zB, zN, zX⟩⟩
    simp_all
   have c1 : decide (x.fst ∈ F) = true := by simpa using hs
   refine yM rfl rfl ?_
   refine yK rfl ?_
   refine yK rfl ?_
   refine yK rfl ?_
   refine yK rfl ?_
   refine yK rfl ?_
   refine aa rfl (cy rfl rfl (by constructor)) ?_
   refine yM rfl rfl ?_
   refine yK rfl ?_
   refine yK rfl ?_
   refine yK rfl ?_
   refine yK rfl ?_
   refine aa rfl (cy rfl rfl (by constructor)) ?_
   refine yN ?_
   dsimp only [St.put]
   refine ⟨_, ?_, ⟨⟨rfl, rfl⟩, zF, zB, zN, zX⟩⟩
   simp_all
  rintro d hst
  dsimp only at hst ⊢
  refine aq rfl (fun hc => ?_) (fun hc => ?_)
  ·have hd1 := hst.trans hc
   refine g5 [(0, none), (1, none), (2, none), (3, none), (4, none), (5, none), (6, none), (7, none), (8, none), (9, none), (10, none), (11, none), (12, none), (13, none)] (fun i => [].contains i) (fun i => [].contains i) (fun i => [0, 1, 3, 4, 6, 8, 9, 11, 12, 13].contains i) [] (by kernel_rfl) (by kernel_rfl) ?_
   refine xM rfl rfl rfl rfl rfl ?_
   refine ae rfl rfl rfl rfl (c4 rfl rfl rfl) ?_
   try dsimp only [St.put]
   refine bd rfl rfl rfl rfl (cm rfl rfl) ?_
   refine xM rfl rfl rfl rfl rfl ?_
   try dsimp only [St.put]
   refine ae rfl rfl rfl rfl (bw rfl rfl rfl rfl (bu (by assumption)) (Enc.len _)) ?_
   try dsimp only [St.put]
   refine bd rfl rfl rfl rfl (cm rfl rfl) ?_
   refine ae rfl rfl rfl rfl (c4 rfl rfl rfl) ?_
   try dsimp only [St.put]
   refine bd rfl rfl rfl rfl (cm rfl rfl) ?_
   refine xM rfl rfl rfl rfl rfl ?_
   try dsimp only [St.put]
   refine ae rfl rfl rfl rfl (bw rfl rfl rfl rfl (bu (by assumption)) (Enc.len _)) ?_
   try dsimp only [St.put]
   refine bd rfl rfl rfl rfl (cm rfl rfl) ?_
   refine ae rfl rfl rfl rfl (gh rfl rfl rfl (by omega)) ?_
   refine ae rfl rfl rfl rfl (bx rfl rfl rfl (by omega)) ?_
   refine ae rfl rfl rfl rfl (fp rfl (by constructor)) ?_
   refine ba ?_
   dsimp only [St.put]
   refine K9 _ ?_
   refine yS fun _ K11 => ?_
   refine yS fun _ K12 => ?_
   refine yR ?_
   refine yM rfl rfl ?_
   refine yF rfl rfl rfl rfl ?_
   refine yL rfl rfl rfl ?_
   try dsimp only [St.put]
   refine af rfl (bc rfl rfl rfl (m4 F x.fst (by omega)) ?_)
   refine yN ?_
   dsimp only [St.put]
   refine K12 _ ?_
   refine aq rfl (fun hc => ?_) (fun hc => ?_)
   ·have hf1 : decide (x.fst ∈ F) = true := hc
    refine yR ?_
    refine yM rfl rfl ?_
    refine yF rfl rfl rfl rfl ?_
    refine yL rfl rfl rfl ?_
    refine yM rfl rfl ?_
    refine aa rfl (bw rfl rfl rfl rfl (bu (by assumption)) (Enc.len _)) ?_
    refine yL rfl rfl rfl ?_
    refine aa rfl (gh rfl rfl rfl (by omega)) ?_
    refine yA rfl rfl ?_
    refine yN ?_
    dsimp only [St.put]
    refine K11 _ ?_
    refine yS fun _ K13 => ?_
    refine yR ?_
    refine yM rfl rfl ?_
    refine yF rfl rfl rfl rfl ?_
    refine yL rfl rfl rfl ?_
    try dsimp only [St.put]
    refine af rfl (bc rfl rfl rfl (m4 S x.snd (by omega)) ?_)
    refine yN ?_
    dsimp only [St.put]
    refine K13 _ ?_
    refine aq rfl (fun hc => ?_) (fun hc => ?_)
    ·have hg1 : decide (x.snd ∈ S) = true := hc
     refine yR ?_
     refine yM rfl rfl ?_
     refine yF rfl rfl rfl rfl ?_
     refine yL rfl rfl rfl ?_
     refine yM rfl rfl ?_
     refine aa rfl (bw rfl rfl rfl rfl (bu (by assumption)) (Enc.len _)) ?_
     refine yL rfl rfl rfl ?_
     refine aa rfl (gh rfl rfl rfl (by omega)) ?_
     refine yA rfl rfl ?_
     refine yN ?_
     dsimp only [St.put]
     refine K7 _ ?_
     refine yR ?_
     refine aa rfl (bx rfl rfl rfl (by omega)) ?_
     refine yM rfl rfl ?_
     refine yN ?_
     dsimp only [St.put]
     first
     | (have q1 : (!decide (x.fst ∈ F) && !decide (x.snd ∈ S) && !decide ((k : Int) ∈ but)) = true := hd1
        have q2 : decide (x.fst ∈ F) = true := hf1
        rw [q2] at q1
        exact absurd q1 (by simp))
     | (have q1 : (!decide (x.fst ∈ F) && !decide (x.snd ∈ S) && !decide ((k : Int) ∈ but)) = true := hd1
        have q3 : decide (x.snd ∈ S) = true := hg1
        rw [q3] at q1
        exact absurd q1 (by simp))
     | (have q1 : (!decide (x.fst ∈ F) && !decide (x.snd ∈ S) && !decide ((k : Int) ∈ but)) = true := hd1
        have q2 : decide (x.fst ∈ F) = false := hf0
        have q3 : decide (x.snd ∈ S) = false := hg0
        rw [q1, q2, q3] at e
        simp only [cond_true, cond_false] at e
        rw [show sm k (cj p F S but) + (f4 p k - cz p k) = sm (k + 1) (cj p F S but) by rw [ez, e]; omega]
        exact ⟨k + 1, by omega, by omega, ⟨⟨rfl, rfl⟩, zF, zB, zN, zX⟩⟩)
     | (have q1 : (!decide (x.fst ∈ F) && !decide (x.snd ∈ S) && !decide ((k : Int) ∈ but)) = false := hd0
        have q2 : decide (x.fst ∈ F) = true := hf1
        have q3 : decide (x.snd ∈ S) = true := hg1
        rw [q1, q2, q3] at e
        simp only [cond_true, cond_false] at e
        rw [show sm k (cj p F S but) - cz p k - cz p k = sm (k + 1) (cj p F S but) by rw [ez, e]; omega]
        exact ⟨k + 1, by omega, by omega, ⟨⟨rfl, rfl⟩, zF, zB, zN, zX⟩⟩)
     | (have q1 : (!decide (x.fst ∈ F) && !decide (x.snd ∈ S) && !decide ((k : Int) ∈ but)) = false := hd0
        have q2 : decide (x.fst ∈ F) = true := hf1
        have q3 : decide (x.snd ∈ S) = false := hg0
        rw [q1, q2, q3] at e
        simp only [cond_true, cond_false] at e
        rw [show sm k (cj p F S but) - cz p k = sm (k + 1) (cj p F S but) by rw [ez, e]; omega]
        exact ⟨k + 1, by omega, by omega, ⟨⟨rfl, rfl⟩, zF, zB, zN, zX⟩⟩)
     | (have q1 : (!decide (x.fst ∈ F) && !decide (x.snd ∈ S) && !decide ((k : Int) ∈ but)) = false := hd0
        have q2 : decide (x.fst ∈ F) = false := hf0
        have q3 : decide (x.snd ∈ S) = true := hg1
        rw [q1, q2, q3] at e
        simp only [cond_true, cond_false] at e
        rw [show sm k (cj p F S but) - cz p k = sm (k + 1) (cj p F S but) by rw [ez, e]; omega]
        exact ⟨k + 1, by omega, by omega, ⟨⟨rfl, rfl⟩, zF, zB, zN, zX⟩⟩)
     | (have q1 : (!decide (x.fst ∈ F) && !decide (x.snd ∈ S) && !decide ((k : Int) ∈ but)) = false := hd0
        have q2 : decide (x.fst ∈ F) = false := hf0
        have q3 : decide (x.snd ∈ S) = false := hg0
        rw [q1, q2, q3] at e
        simp only [cond_false] at e
        rw [show sm k (cj p F S but) = sm (k + 1) (cj p F S but) by rw [ez, e]; omega]
        exact ⟨k + 1, by omega, by omega, ⟨⟨rfl, rfl⟩, zF, zB, zN, zX⟩⟩)
    have hg0 : decide (x.snd ∈ S) = false := hc
    refine ay ?_
    refine K7 _ ?_
    refine yR ?_
    refine aa rfl (bx rfl rfl rfl (by omega)) ?_
    refine yM rfl rfl ?_
    refine yN ?_
    dsimp only [St.put]
    first
    | (have q1 : (!decide (x.fst ∈ F) && !decide (x.snd ∈ S) && !decide ((k : Int) ∈ but)) = true := hd1
       have q2 : decide (x.fst ∈ F) = true := hf1
       rw [q2] at q1
       exact absurd q1 (by simp))
    | (have q1 : (!decide (x.fst ∈ F) && !decide (x.snd ∈ S) && !decide ((k : Int) ∈ but)) = true := hd1
       have q3 : decide (x.snd ∈ S) = true := hg1
       rw [q3] at q1
       exact absurd q1 (by simp))
    | (have q1 : (!decide (x.fst ∈ F) && !decide (x.snd ∈ S) && !decide ((k : Int) ∈ but)) = true := hd1
       have q2 : decide (x.fst ∈ F) = false := hf0
       have q3 : decide (x.snd ∈ S) = false := hg0
       rw [q1, q2, q3] at e
       simp only [cond_true, cond_false] at e
       rw [show sm k (cj p F S but) + (f4 p k - cz p k) = sm (k + 1) (cj p F S but) by rw [ez, e]; omega]
       exact ⟨k + 1, by omega, by omega, ⟨⟨rfl, rfl⟩, zF, zB, zN, zX⟩⟩)
    | (have q1 : (!decide (x.fst ∈ F) && !decide (x.snd ∈ S) && !decide ((k : Int) ∈ but)) = false := hd0
       have q2 : decide (x.fst ∈ F) = true := hf1
       have q3 : decide (x.snd ∈ S) = true := hg1
       rw [q1, q2, q3] at e
       simp only [cond_true, cond_false] at e
       rw [show sm k (cj p F S but) - cz p k - cz p k = sm (k + 1) (cj p F S but) by rw [ez, e]; omega]
       exact ⟨k + 1, by omega, by omega, ⟨⟨rfl, rfl⟩, zF, zB, zN, zX⟩⟩)
    | (have q1 : (!decide (x.fst ∈ F) && !decide (x.snd ∈ S) && !decide ((k : Int) ∈ but)) = false := hd0
       have q2 : decide (x.fst ∈ F) = true := hf1
       have q3 : decide (x.snd ∈ S) = false := hg0
       rw [q1, q2, q3] at e
       simp only [cond_true, cond_false] at e
       rw [show sm k (cj p F S but) - cz p k = sm (k + 1) (cj p F S but) by rw [ez, e]; omega]
       exact ⟨k + 1, by omega, by omega, ⟨⟨rfl, rfl⟩, zF, zB, zN, zX⟩⟩)
    | (have q1 : (!decide (x.fst ∈ F) && !decide (x.snd ∈ S) && !decide ((k : Int) ∈ but)) = false := hd0
       have q2 : decide (x.fst ∈ F) = false := hf0
       have q3 : decide (x.snd ∈ S) = true := hg1
       rw [q1, q2, q3] at e
       simp only [cond_true, cond_false] at e
       rw [show sm k (cj p F S but) - cz p k = sm (k + 1) (cj p F S but) by rw [ez, e]; omega]
       exact ⟨k + 1, by omega, by omega, ⟨⟨rfl, rfl⟩, zF, zB, zN, zX⟩⟩)
    | (have q1 : (!decide (x.fst ∈ F) && !decide (x.snd ∈ S) && !decide ((k : Int) ∈ but)) = false := hd0
       have q2 : decide (x.fst ∈ F) = false := hf0
       have q3 : decide (x.snd ∈ S) = false := hg0
       rw [q1, q2, q3] at e
       simp only [cond_false] at e
       rw [show sm k (cj p F S but) = sm (k + 1) (cj p F S but) by rw [ez, e]; omega]
       exact ⟨k + 1, by omega, by omega, ⟨⟨rfl, rfl⟩, zF, zB, zN, zX⟩⟩)
   have hf0 : decide (x.fst ∈ F) = false := hc
   refine ay ?_
   refine K11 _ ?_
   refine yS fun _ K14 => ?_
   refine yR ?_
   refine yM rfl rfl ?_
   refine yF rfl rfl rfl rfl ?_
   refine yL rfl rfl rfl ?_
   try dsimp only [St.put]
   refine af rfl (bc rfl rfl rfl (m4 S x.snd (by omega)) ?_)
   refine yN ?_
   dsimp only [St.put]
   refine K14 _ ?_
   refine aq rfl (fun hc => ?_) (fun hc => ?_)
   ·have hg1 : decide (x.snd ∈ S) = true := hc
    refine yR ?_
    refine yM rfl rfl ?_
    refine yF rfl rfl rfl rfl ?_
    refine yL rfl rfl rfl ?_
    refine yM rfl rfl ?_
    refine aa rfl (bw rfl rfl rfl rfl (bu (by assumption)) (Enc.len _)) ?_
    refine yL rfl rfl rfl ?_
    refine aa rfl (gh rfl rfl rfl (by omega)) ?_
    refine yA rfl rfl ?_
    refine yN ?_
    dsimp only [St.put]
    refine K7 _ ?_
    refine yR ?_
    refine aa rfl (bx rfl rfl rfl (by omega)) ?_
    refine yM rfl rfl ?_
    refine yN ?_
    dsimp only [St.put]
    first
    | (have q1 : (!decide (x.fst ∈ F) && !decide (x.snd ∈ S) && !decide ((k : Int) ∈ but)) = true := hd1
       have q2 : decide (x.fst ∈ F) = true := hf1
       rw [q2] at q1
       exact absurd q1 (by simp))
    | (have q1 : (!decide (x.fst ∈ F) && !decide (x.snd ∈ S) && !decide ((k : Int) ∈ but)) = true := hd1
       have q3 : decide (x.snd ∈ S) = true := hg1
       rw [q3] at q1
       exact absurd q1 (by simp))
    | (have q1 : (!decide (x.fst ∈ F) && !decide (x.snd ∈ S) && !decide ((k : Int) ∈ but)) = true := hd1
       have q2 : decide (x.fst ∈ F) = false := hf0
       have q3 : decide (x.snd ∈ S) = false := hg0
       rw [q1, q2, q3] at e
       simp only [cond_true, cond_false] at e
       rw [show sm k (cj p F S but) + (f4 p k - cz p k) = sm (k + 1) (cj p F S but) by rw [ez, e]; omega]
       exact ⟨k + 1, by omega, by omega, ⟨⟨rfl, rfl⟩, zF, zB, zN, zX⟩⟩)
    | (have q1 : (!decide (x.fst ∈ F) && !decide (x.snd ∈ S) && !decide ((k : Int) ∈ but)) = false := hd0
       have q2 : decide (x.fst ∈ F) = true := hf1
       have q3 : decide (x.snd ∈ S) = true := hg1
       rw [q1, q2, q3] at e
       simp only [cond_true, cond_false] at e
       rw [show sm k (cj p F S but) - cz p k - cz p k = sm (k + 1) (cj p F S but) by rw [ez, e]; omega]
       exact ⟨k + 1, by omega, by omega, ⟨⟨rfl, rfl⟩, zF, zB, zN, zX⟩⟩)
    | (have q1 : (!decide (x.fst ∈ F) && !decide (x.snd ∈ S) && !decide ((k : Int) ∈ but)) = false := hd0
       have q2 : decide (x.fst ∈ F) = true := hf1
       have q3 : decide (x.snd ∈ S) = false := hg0
       rw [q1, q2, q3] at e
       simp only [cond_true, cond_false] at e
       rw [show sm k (cj p F S but) - cz p k = sm (k + 1) (cj p F S but) by rw [ez, e]; omega]
       exact ⟨k + 1, by omega, by omega, ⟨⟨rfl, rfl⟩, zF, zB, zN, zX⟩⟩)
    | (have q1 : (!decide (x.fst ∈ F) && !decide (x.snd ∈ S) && !decide ((k : Int) ∈ but)) = false := hd0
       have q2 : decide (x.fst ∈ F) = false := hf0
       have q3 : decide (x.snd ∈ S) = true := hg1
       rw [q1, q2, q3] at e
       simp only [cond_true, cond_false] at e
       rw [show sm k (cj p F S but) - cz p k = sm (k + 1) (cj p F S but) by rw [ez, e]; omega]
       exact ⟨k + 1, by omega, by omega, ⟨⟨rfl, rfl⟩, zF, zB, zN, zX⟩⟩)
    | (have q1 : (!decide (x.fst ∈ F) && !decide (x.snd ∈ S) && !decide ((k : Int) ∈ but)) = false := hd0
       have q2 : decide (x.fst ∈ F) = false := hf0
       have q3 : decide (x.snd ∈ S) = false := hg0
       rw [q1, q2, q3] at e
       simp only [cond_false] at e
       rw [show sm k (cj p F S but) = sm (k + 1) (cj p F S but) by rw [ez, e]; omega]
       exact ⟨k + 1, by omega, by omega, ⟨⟨rfl, rfl⟩, zF, zB, zN, zX⟩⟩)
   have hg0 : decide (x.snd ∈ S) = false := hc
   refine ay ?_
   refine K7 _ ?_
   refine yR ?_
   refine aa rfl (bx rfl rfl rfl (by omega)) ?_
   refine yM rfl rfl ?_
   refine yN ?_
   dsimp only [St.put]
   first
   | (have q1 : (!decide (x.fst ∈ F) && !decide (x.snd ∈ S) && !decide ((k : Int) ∈ but)) = true := hd1
      have q2 : decide (x.fst ∈ F) = true := hf1
      rw [q2] at q1
      exact absurd q1 (by simp))
   | (have q1 : (!decide (x.fst ∈ F) && !decide (x.snd ∈ S) && !decide ((k : Int) ∈ but)) = true := hd1
      have q3 : decide (x.snd ∈ S) = true := hg1
      rw [q3] at q1
      exact absurd q1 (by simp))
   | (have q1 : (!decide (x.fst ∈ F) && !decide (x.snd ∈ S) && !decide ((k : Int) ∈ but)) = true := hd1
      have q2 : decide (x.fst ∈ F) = false := hf0
      have q3 : decide (x.snd ∈ S) = false := hg0
      rw [q1, q2, q3] at e
      simp only [cond_true, cond_false] at e
      rw [show sm k (cj p F S but) + (f4 p k - cz p k) = sm (k + 1) (cj p F S but) by rw [ez, e]; omega]
      exact ⟨k + 1, by omega, by omega, ⟨⟨rfl, rfl⟩, zF, zB, zN, zX⟩⟩)
   | (have q1 : (!decide (x.fst ∈ F) && !decide (x.snd ∈ S) && !decide ((k : Int) ∈ but)) = false := hd0
      have q2 : decide (x.fst ∈ F) = true := hf1
      have q3 : decide (x.snd ∈ S) = true := hg1
      rw [q1, q2, q3] at e
      simp only [cond_true, cond_false] at e
      rw [show sm k (cj p F S but) - cz p k - cz p k = sm (k + 1) (cj p F S but) by rw [ez, e]; omega]
      exact ⟨k + 1, by omega, by omega, ⟨⟨rfl, rfl⟩, zF, zB, zN, zX⟩⟩)
   | (have q1 : (!decide (x.fst ∈ F) && !decide (x.snd ∈ S) && !decide ((k : Int) ∈ but)) = false := hd0
      have q2 : decide (x.fst ∈ F) = true := hf1
      have q3 : decide (x.snd ∈ S) = false := hg0
      rw [q1, q2, q3] at e
      simp only [cond_true, cond_false] at e
      rw [show sm k (cj p F S but) - cz p k = sm (k + 1) (cj p F S but) by rw [ez, e]; omega]
      exact ⟨k + 1, by omega, by omega, ⟨⟨rfl, rfl⟩, zF, zB, zN, zX⟩⟩)
   | (have q1 : (!decide (x.fst ∈ F) && !decide (x.snd ∈ S) && !decide ((k : Int) ∈ but)) = false := hd0
      have q2 : decide (x.fst ∈ F) = false := hf0
      have q3 : decide (x.snd ∈ S) = true := hg1
      rw [q1, q2, q3] at e
      simp only [cond_true, cond_false] at e
      rw [show sm k (cj p F S but) - cz p k = sm (k + 1) (cj p F S but) by rw [ez, e]; omega]
      exact ⟨k + 1, by omega, by omega, ⟨⟨rfl, rfl⟩, zF, zB, zN, zX⟩⟩)
   | (have q1 : (!decide (x.fst ∈ F) && !decide (x.snd ∈ S) && !decide ((k : Int) ∈ but)) = false := hd0
      have q2 : decide (x.fst ∈ F) = false := hf0
      have q3 : decide (x.snd ∈ S) = false := hg0
      rw [q1, q2, q3] at e
      simp only [cond_false] at e
      rw [show sm k (cj p F S but) = sm (k + 1) (cj p F S but) by rw [ez, e]; omega]
      exact ⟨k + 1, by omega, by omega, ⟨⟨rfl, rfl⟩, zF, zB, zN, zX⟩⟩)
  have hd0 := hst.trans hc
  refine ay ?_
  refine K9 _ ?_
  refine yS fun _ K15 => ?_
  refine yS fun _ K16 => ?_
  refine yR ?_
  refine yM rfl rfl ?_
  refine yF rfl rfl rfl rfl ?_
  refine yL rfl rfl rfl ?_
  try dsimp only [St.put]
  refine af rfl (bc rfl rfl rfl (m4 F x.fst (by omega)) ?_)
  refine yN ?_
  dsimp only [St.put]
  refine K16 _ ?_
  refine aq rfl (fun hc => ?_) (fun hc => ?_)
  ·have hf1 : decide (x.fst ∈ F) = true := hc
   refine yR ?_
   refine yM rfl rfl ?_
   refine yF rfl rfl rfl rfl ?_
   refine yL rfl rfl rfl ?_
   refine yM rfl rfl ?_
   refine aa rfl (bw rfl rfl rfl rfl (bu (by assumption)) (Enc.len _)) ?_
   refine yL rfl rfl rfl ?_
   refine aa rfl (gh rfl rfl rfl (by omega)) ?_
   refine yA rfl rfl ?_
   refine yN ?_
   dsimp only [St.put]
   refine K15 _ ?_
   refine yS fun _ K17 => ?_
   refine yR ?_
   refine yM rfl rfl ?_
   refine yF rfl rfl rfl rfl ?_
   refine yL rfl rfl rfl ?_
   try dsimp only [St.put]
   refine af rfl (bc rfl rfl rfl (m4 S x.snd (by omega)) ?_)
   refine yN ?_
   dsimp only [St.put]
   refine K17 _ ?_
   refine aq rfl (fun hc => ?_) (fun hc => ?_)
   ·have hg1 : decide (x.snd ∈ S) = true := hc
    refine yR ?_
    refine yM rfl rfl ?_
    refine yF rfl rfl rfl rfl ?_
    refine yL rfl rfl rfl ?_
    refine yM rfl rfl ?_
    refine aa rfl (bw rfl rfl rfl rfl (bu (by assumption)) (Enc.len _)) ?_
    refine yL rfl rfl rfl ?_
    refine aa rfl (gh rfl rfl rfl (by omega)) ?_
    refine yA rfl rfl ?_
    refine yN ?_
    dsimp only [St.put]
    refine K7 _ ?_
    refine yR ?_
    refine aa rfl (bx rfl rfl rfl (by omega)) ?_
    refine yM rfl rfl ?_
    refine yN ?_
    dsimp only [St.put]
    first
    | (have q1 : (!decide (x.fst ∈ F) && !decide (x.snd ∈ S) && !decide ((k : Int) ∈ but)) = true := hd1
       have q2 : decide (x.fst ∈ F) = true := hf1
       rw [q2] at q1
       exact absurd q1 (by simp))
    | (have q1 : (!decide (x.fst ∈ F) && !decide (x.snd ∈ S) && !decide ((k : Int) ∈ but)) = true := hd1
       have q3 : decide (x.snd ∈ S) = true := hg1
       rw [q3] at q1
       exact absurd q1 (by simp))
    | (have q1 : (!decide (x.fst ∈ F) && !decide (x.snd ∈ S) && !decide ((k : Int) ∈ but)) = true := hd1
       have q2 : decide (x.fst ∈ F) = false := hf0
       have q3 : decide (x.snd ∈ S) = false := hg0
       rw [q1, q2, q3] at e
       simp only [cond_true, cond_false] at e
       rw [show sm k (cj p F S but) + (f4 p k - cz p k) = sm (k + 1) (cj p F S but) by rw [ez, e]; omega]
       exact ⟨k + 1, by omega, by omega, ⟨⟨rfl, rfl⟩, zF, zB, zN, zX⟩⟩)
    | (have q1 : (!decide (x.fst ∈ F) && !decide (x.snd ∈ S) && !decide ((k : Int) ∈ but)) = false := hd0
       have q2 : decide (x.fst ∈ F) = true := hf1
       have q3 : decide (x.snd ∈ S) = true := hg1
       rw [q1, q2, q3] at e
       simp only [cond_true, cond_false] at e
       rw [show sm k (cj p F S but) - cz p k - cz p k = sm (k + 1) (cj p F S but) by rw [ez, e]; omega]
       exact ⟨k + 1, by omega, by omega, ⟨⟨rfl, rfl⟩, zF, zB, zN, zX⟩⟩)
    | (have q1 : (!decide (x.fst ∈ F) && !decide (x.snd ∈ S) && !decide ((k : Int) ∈ but)) = false := hd0
       have q2 : decide (x.fst ∈ F) = true := hf1
       have q3 : decide (x.snd ∈ S) = false := hg0
       rw [q1, q2, q3] at e
       simp only [cond_true, cond_false] at e
       rw [show sm k (cj p F S but) - cz p k = sm (k + 1) (cj p F S but) by rw [ez, e]; omega]
       exact ⟨k + 1, by omega, by omega, ⟨⟨rfl, rfl⟩, zF, zB, zN, zX⟩⟩)
    | (have q1 : (!decide (x.fst ∈ F) && !decide (x.snd ∈ S) && !decide ((k : Int) ∈ but)) = false := hd0
       have q2 : decide (x.fst ∈ F) = false := hf0
       have q3 : decide (x.snd ∈ S) = true := hg1
       rw [q1, q2, q3] at e
       simp only [cond_true, cond_false] at e
       rw [show sm k (cj p F S but) - cz p k = sm (k + 1) (cj p F S but) by rw [ez, e]; omega]
       exact ⟨k + 1, by omega, by omega, ⟨⟨rfl, rfl⟩, zF, zB, zN, zX⟩⟩)
    | (have q1 : (!decide (x.fst ∈ F) && !decide (x.snd ∈ S) && !decide ((k : Int) ∈ but)) = false := hd0
       have q2 : decide (x.fst ∈ F) = false := hf0
       have q3 : decide (x.snd ∈ S) = false := hg0
       rw [q1, q2, q3] at e
       simp only [cond_false] at e
       rw [show sm k (cj p F S but) = sm (k + 1) (cj p F S but) by rw [ez, e]; omega]
       exact ⟨k + 1, by omega, by omega, ⟨⟨rfl, rfl⟩, zF, zB, zN, zX⟩⟩)
   have hg0 : decide (x.snd ∈ S) = false := hc
   refine ay ?_
   refine K7 _ ?_
   refine yR ?_
   refine aa rfl (bx rfl rfl rfl (by omega)) ?_
   refine yM rfl rfl ?_
   refine yN ?_
   dsimp only [St.put]
   first
   | (have q1 : (!decide (x.fst ∈ F) && !decide (x.snd ∈ S) && !decide ((k : Int) ∈ but)) = true := hd1
      have q2 : decide (x.fst ∈ F) = true := hf1
      rw [q2] at q1
      exact absurd q1 (by simp))
   | (have q1 : (!decide (x.fst ∈ F) && !decide (x.snd ∈ S) && !decide ((k : Int) ∈ but)) = true := hd1
      have q3 : decide (x.snd ∈ S) = true := hg1
      rw [q3] at q1
      exact absurd q1 (by simp))
   | (have q1 : (!decide (x.fst ∈ F) && !decide (x.snd ∈ S) && !decide ((k : Int) ∈ but)) = true := hd1
      have q2 : decide (x.fst ∈ F) = false := hf0
      have q3 : decide (x.snd ∈ S) = false := hg0
      rw [q1, q2, q3] at e
      simp only [cond_true, cond_false] at e
      rw [show sm k (cj p F S but) + (f4 p k - cz p k) = sm (k + 1) (cj p F S but) by rw [ez, e]; omega]
      exact ⟨k + 1, by omega, by omega, ⟨⟨rfl, rfl⟩, zF, zB, zN, zX⟩⟩)
   | (have q1 : (!decide (x.fst ∈ F) && !decide (x.snd ∈ S) && !decide ((k : Int) ∈ but)) = false := hd0
      have q2 : decide (x.fst ∈ F) = true := hf1
      have q3 : decide (x.snd ∈ S) = true := hg1
      rw [q1, q2, q3] at e
      simp only [cond_true, cond_false] at e
      rw [show sm k (cj p F S but) - cz p k - cz p k = sm (k + 1) (cj p F S but) by rw [ez, e]; omega]
      exact ⟨k + 1, by omega, by omega, ⟨⟨rfl, rfl⟩, zF, zB, zN, zX⟩⟩)
   | (have q1 : (!decide (x.fst ∈ F) && !decide (x.snd ∈ S) && !decide ((k : Int) ∈ but)) = false := hd0
      have q2 : decide (x.fst ∈ F) = true := hf1
      have q3 : decide (x.snd ∈ S) = false := hg0
      rw [q1, q2, q3] at e
      simp only [cond_true, cond_false] at e
      rw [show sm k (cj p F S but) - cz p k = sm (k + 1) (cj p F S but) by rw [ez, e]; omega]
      exact ⟨k + 1, by omega, by omega, ⟨⟨rfl, rfl⟩, zF, zB, zN, zX⟩⟩)
   | (have q1 : (!decide (x.fst ∈ F) && !decide (x.snd ∈ S) && !decide ((k : Int) ∈ but)) = false := hd0
      have q2 : decide (x.fst ∈ F) = false := hf0
      have q3 : decide (x.snd ∈ S) = true := hg1
      rw [q1, q2, q3] at e
      simp only [cond_true, cond_false] at e
      rw [show sm k (cj p F S but) - cz p k = sm (k + 1) (cj p F S but) by rw [ez, e]; omega]
      exact ⟨k + 1, by omega, by omega, ⟨⟨rfl, rfl⟩, zF, zB, zN, zX⟩⟩)
   | (have q1 : (!decide (x.fst ∈ F) && !decide (x.snd ∈ S) && !decide ((k : Int) ∈ but)) = false := hd0
      have q2 : decide (x.fst ∈ F) = false := hf0
      have q3 : decide (x.snd ∈ S) = false := hg0
      rw [q1, q2, q3] at e
      simp only [cond_false] at e
      rw [show sm k (cj p F S but) = sm (k + 1) (cj p F S but) by rw [ez, e]; omega]
      exact ⟨k + 1, by omega, by omega, ⟨⟨rfl, rfl⟩, zF, zB, zN, zX⟩⟩)
  have hf0 : decide (x.fst ∈ F) = false := hc
  refine ay ?_
  refine K15 _ ?_
  refine yS fun _ K18 => ?_
  refine yR ?_
  refine yM rfl rfl ?_
  refine yF rfl rfl rfl rfl ?_
  refine yL rfl rfl rfl ?_
  try dsimp only [St.put]
  refine af rfl (bc rfl rfl rfl (m4 S x.snd (by omega)) ?_)
  refine yN ?_
  dsimp only [St.put]
  refine K18 _ ?_
  refine aq rfl (fun hc => ?_) (fun hc => ?_)
  ·have hg1 : decide (x.snd ∈ S) = true := hc
   refine yR ?_
   refine yM rfl rfl ?_
   refine yF rfl rfl rfl rfl ?_
   refine yL rfl rfl rfl ?_
   refine yM rfl rfl ?_
   refine aa rfl (bw rfl rfl rfl rfl (bu (by assumption)) (Enc.len _)) ?_
   refine yL rfl rfl rfl ?_
   refine aa rfl (gh rfl rfl rfl (by omega)) ?_
   refine yA rfl rfl ?_
   refine yN ?_
   dsimp only [St.put]
   refine K7 _ ?_
   refine yR ?_
   refine aa rfl (bx rfl rfl rfl (by omega)) ?_
   refine yM rfl rfl ?_
   refine yN ?_
   dsimp only [St.put]
   first
   | (have q1 : (!decide (x.fst ∈ F) && !decide (x.snd ∈ S) && !decide ((k : Int) ∈ but)) = true := hd1
      have q2 : decide (x.fst ∈ F) = true := hf1
      rw [q2] at q1
      exact absurd q1 (by simp))
   | (have q1 : (!decide (x.fst ∈ F) && !decide (x.snd ∈ S) && !decide ((k : Int) ∈ but)) = true := hd1
      have q3 : decide (x.snd ∈ S) = true := hg1
      rw [q3] at q1
      exact absurd q1 (by simp))
   | (have q1 : (!decide (x.fst ∈ F) && !decide (x.snd ∈ S) && !decide ((k : Int) ∈ but)) = true := hd1
      have q2 : decide (x.fst ∈ F) = false := hf0
      have q3 : decide (x.snd ∈ S) = false := hg0
      rw [q1, q2, q3] at e
      simp only [cond_true, cond_false] at e
      rw [show sm k (cj p F S but) + (f4 p k - cz p k) = sm (k + 1) (cj p F S but) by rw [ez, e]; omega]
      exact ⟨k + 1, by omega, by omega, ⟨⟨rfl, rfl⟩, zF, zB, zN, zX⟩⟩)
   | (have q1 : (!decide (x.fst ∈ F) && !decide (x.snd ∈ S) && !decide ((k : Int) ∈ but)) = false := hd0
      have q2 : decide (x.fst ∈ F) = true := hf1
      have q3 : decide (x.snd ∈ S) = true := hg1
      rw [q1, q2, q3] at e
      simp only [cond_true, cond_false] at e
      rw [show sm k (cj p F S but) - cz p k - cz p k = sm (k + 1) (cj p F S but) by rw [ez, e]; omega]
      exact ⟨k + 1, by omega, by omega, ⟨⟨rfl, rfl⟩, zF, zB, zN, zX⟩⟩)
   | (have q1 : (!decide (x.fst ∈ F) && !decide (x.snd ∈ S) && !decide ((k : Int) ∈ but)) = false := hd0
      have q2 : decide (x.fst ∈ F) = true := hf1
      have q3 : decide (x.snd ∈ S) = false := hg0
      rw [q1, q2, q3] at e
      simp only [cond_true, cond_false] at e
      rw [show sm k (cj p F S but) - cz p k = sm (k + 1) (cj p F S but) by rw [ez, e]; omega]
      exact ⟨k + 1, by omega, by omega, ⟨⟨rfl, rfl⟩, zF, zB, zN, zX⟩⟩)
   | (have q1 : (!decide (x.fst ∈ F) && !decide (x.snd ∈ S) && !decide ((k : Int) ∈ but)) = false := hd0
      have q2 : decide (x.fst ∈ F) = false := hf0
      have q3 : decide (x.snd ∈ S) = true := hg1
      rw [q1, q2, q3] at e
      simp only [cond_true, cond_false] at e
      rw [show sm k (cj p F S but) - cz p k = sm (k + 1) (cj p F S but) by rw [ez, e]; omega]
      exact ⟨k + 1, by omega, by omega, ⟨⟨rfl, rfl⟩, zF, zB, zN, zX⟩⟩)
   | (have q1 : (!decide (x.fst ∈ F) && !decide (x.snd ∈ S) && !decide ((k : Int) ∈ but)) = false := hd0
      have q2 : decide (x.fst ∈ F) = false := hf0
      have q3 : decide (x.snd ∈ S) = false := hg0
      rw [q1, q2, q3] at e
      simp only [cond_false] at e
      rw [show sm k (cj p F S but) = sm (k + 1) (cj p F S but) by rw [ez, e]; omega]
      exact ⟨k + 1, by omega, by omega, ⟨⟨rfl, rfl⟩, zF, zB, zN, zX⟩⟩)
  have hg0 : decide (x.snd ∈ S) = false := hc
  refine ay ?_
  refine K7 _ ?_
  refine yR ?_
  refine aa rfl (bx rfl rfl rfl (by omega)) ?_
  refine yM rfl rfl ?_
  refine yN ?_
  dsimp only [St.put]
  first
  | (have q1 : (!decide (x.fst ∈ F) && !decide (x.snd ∈ S) && !decide ((k : Int) ∈ but)) = true := hd1
     have q2 : decide (x.fst ∈ F) = true := hf1
     rw [q2] at q1
     exact absurd q1 (by simp))
  | (have q1 : (!decide (x.fst ∈ F) && !decide (x.snd ∈ S) && !decide ((k : Int) ∈ but)) = true := hd1
     have q3 : decide (x.snd ∈ S) = true := hg1
     rw [q3] at q1
     exact absurd q1 (by simp))
  | (have q1 : (!decide (x.fst ∈ F) && !decide (x.snd ∈ S) && !decide ((k : Int) ∈ but)) = true := hd1
     have q2 : decide (x.fst ∈ F) = false := hf0
     have q3 : decide (x.snd ∈ S) = false := hg0
     rw [q1, q2, q3] at e
     simp only [cond_true, cond_false] at e
     rw [show sm k (cj p F S but) + (f4 p k - cz p k) = sm (k + 1) (cj p F S but) by rw [ez, e]; omega]
     exact ⟨k + 1, by omega, by omega, ⟨⟨rfl, rfl⟩, zF, zB, zN, zX⟩⟩)
  | (have q1 : (!decide (x.fst ∈ F) && !decide (x.snd ∈ S) && !decide ((k : Int) ∈ but)) = false := hd0
     have q2 : decide (x.fst ∈ F) = true := hf1
     have q3 : decide (x.snd ∈ S) = true := hg1
     rw [q1, q2, q3] at e
     simp only [cond_true, cond_false] at e
     rw [show sm k (cj p F S but) - cz p k - cz p k = sm (k + 1) (cj p F S but) by rw [ez, e]; omega]
     exact ⟨k + 1, by omega, by omega, ⟨⟨rfl, rfl⟩, zF, zB, zN, zX⟩⟩)
  | (have q1 : (!decide (x.fst ∈ F) && !decide (x.snd ∈ S) && !decide ((k : Int) ∈ but)) = false := hd0
     have q2 : decide (x.fst ∈ F) = true := hf1
     have q3 : decide (x.snd ∈ S) = false := hg0
     rw [q1, q2, q3] at e
     simp only [cond_true, cond_false] at e
     rw [show sm k (cj p F S but) - cz p k = sm (k + 1) (cj p F S but) by rw [ez, e]; omega]
     exact ⟨k + 1, by omega, by omega, ⟨⟨rfl, rfl⟩, zF, zB, zN, zX⟩⟩)
  | (have q1 : (!decide (x.fst ∈ F) && !decide (x.snd ∈ S) && !decide ((k : Int) ∈ but)) = false := hd0
     have q2 : decide (x.fst ∈ F) = false := hf0
     have q3 : decide (x.snd ∈ S) = true := hg1
     rw [q1, q2, q3] at e
     simp only [cond_true, cond_false] at e
     rw [show sm k (cj p F S but) - cz p k = sm (k + 1) (cj p F S but) by rw [ez, e]; omega]
     exact ⟨k + 1, by omega, by omega, ⟨⟨rfl, rfl⟩, zF, zB, zN, zX⟩⟩)
  | (have q1 : (!decide (x.fst ∈ F) && !decide (x.snd ∈ S) && !decide ((k : Int) ∈ but)) = false := hd0
     have q2 : decide (x.fst ∈ F) = false := hf0
     have q3 : decide (x.snd ∈ S) = false := hg0
     rw [q1, q2, q3] at e
     simp only [cond_false] at e
     rw [show sm k (cj p F S but) = sm (k + 1) (cj p F S but) by rw [ez, e]; omega]
     exact ⟨k + 1, by omega, by omega, ⟨⟨rfl, rfl⟩, zF, zB, zN, zX⟩⟩)
 replace hc := of_decide_eq_false hc
 obtain rfl : k = p.pages.length := by omega
 have hsb := uae h F S but p.pages.length hnp
 obtain ⟨A, hA⟩ : ∃ A, sm p.pages.length (cj p F S but) = A := ⟨_, rfl⟩
 rw [hA] at hsb
 refine c7 ?_
 refine K3 _ ?_
 refine yS fun _ K19 => ?_
 refine yS fun _ K20 => ?_
 refine yR ?_
 refine yM rfl rfl ?_
 refine aa rfl (bn rfl rfl (List.length_map _)) ?_
 refine yM rfl rfl ?_
 refine yN ?_
 dsimp only [St.put]
 rw [hA, show A = A + io (F.take 0) (fun i => dd p false i.toNat) by show A = A + 0; omega]
 refine K20 _ ?_
 refine bf ?_
 refine ct 83 ?_
 refine zQ ?_
 refine c9 (G) zX ?_
 dsimp only
 refine c8 (X := Nat) (fun i => i ≤ F.length) (fun i => F.length - i) (fun i => [(11, .v (.int .i64 (A + io (F.take i) (fun i => dd p false i.toNat)))), (15, .any), (82, .v (.int .i64 (i : Int)))]) (fun i G' => G') 0 rfl ?_ ?_ (fun _ _ h => h) ?_ ?_ ?_
 ·exact Nat.zero_le _
 ·exact zF
 ·rintro i hI
  exact zL
 ·exact fun _ _ _ _ h => .inl h
 rintro i hJ
 dsimp only at hJ ⊢
 refine yS fun _ K21 => ?_
 refine yR ?_
 refine aa rfl (cn rfl rfl rfl) ?_
 refine yN ?_
 dsimp only [St.put]
 refine K21 _ ?_
 refine yS fun _ K22 => ?_
 refine aq rfl (fun hc => ?_) (fun hc => ?_)
 ·replace hc := of_decide_eq_true hc
  obtain ⟨z0, hz0⟩ : ∃ z, F[i]? = some z := dm (by omega)
  have hzb := hF z0 (fy hz0)
  obtain ⟨z, rfl⟩ : ∃ z : Nat, z0 = (z : Int) := ⟨z0.toNat, by omega⟩
  have hzl : z < p.firsts.length := by omega
  have hgz := j4 (dd p false) hzl
  have e := uc6 (g := fun i => dd p false i.toNat) hz0
  try dsimp only at e
  rw [Int.toNat_natCast] at e
  have hbz := n3 h false z
  have hib := vh (g := fun i => dd p false i.toNat) (fun z => n3 h false z.toNat) (F.take i)
  have htl : (F.take i).length ≤ 20 := by rw [List.length_take]; omega
  refine ay ?_
  refine K22 _ ?_
  refine yS fun _ K23 => ?_
  refine bf ?_
  refine yS fun _ K24 => ?_
  refine yR ?_
  refine aa rfl (bw rfl rfl rfl rfl (bu (by assumption)) (Enc.len _)) ?_
  refine yL rfl rfl rfl ?_
  refine yA rfl rfl ?_
  refine yN ?_
  dsimp only [St.put]
  refine K24 _ ?_
  refine yS fun _ K25 => ?_
  refine yS fun _ K26 => ?_
  refine yR ?_
  refine yM rfl rfl ?_
  refine aa rfl (cn rfl rfl rfl) ?_
  refine yM rfl rfl ?_
  refine yM rfl rfl ?_
  refine yF rfl rfl rfl rfl ?_
  refine yL rfl rfl rfl ?_
  refine aa rfl (bn rfl rfl (List.length_map _)) ?_
  refine aa rfl ((ef (c := false) (kz rfl rfl rfl) (decide_eq_false (by rw [hk3]; omega)))) ?_
  refine aa rfl (cy rfl rfl (by constructor)) ?_
  refine yN ?_
  dsimp only [St.put]
  refine K26 _ ?_
  refine aq rfl (fun h => by cases h) (fun _ => ?_)
  refine ay ?_
  refine K25 _ ?_
  refine yR ?_
  refine yM rfl rfl ?_
  refine yF rfl rfl rfl rfl ?_
  refine yL rfl rfl rfl ?_
  refine yM rfl rfl ?_
  refine aa rfl (bw rfl rfl rfl rfl (bu (by assumption)) (Enc.len _)) ?_
  refine yL rfl rfl rfl ?_
  refine aa rfl (bx rfl rfl rfl (by omega)) ?_
  refine yA rfl rfl ?_
  refine yN ?_
  dsimp only [St.put]
  refine K23 _ ?_
  refine yR ?_
  refine aa rfl (bx rfl rfl rfl (by omega)) ?_
  refine yM rfl rfl ?_
  refine yN ?_
  dsimp only [St.put]
  rw [Int.add_assoc, ← e]
  exact ⟨i + 1, by omega, by omega, ⟨⟨rfl, rfl⟩, zF, zB, zN, zX⟩⟩
 replace hc := of_decide_eq_false hc
 rw [f5 (show F.length ≤ i by omega)]
 have hib := vh (g := fun i => dd p false i.toNat) (fun z => n3 h false z.toNat) F
 obtain ⟨B, hB⟩ : ∃ B, io F (fun i => dd p false i.toNat) = B := ⟨_, rfl⟩
 rw [hB] at hib
 refine c7 ?_
 refine K19 _ ?_
 refine yS fun _ K27 => ?_
 refine yS fun _ K28 => ?_
 refine yR ?_
 refine yM rfl rfl ?_
 refine aa rfl (bn rfl rfl (List.length_map _)) ?_
 refine yM rfl rfl ?_
 refine yN ?_
 dsimp only [St.put]
 rw [hB, show A + B = A + B + io (S.take 0) (fun i => dd p true i.toNat) by show A + B = A + B + 0; omega]
 refine K28 _ ?_
 refine bf ?_
 refine ct 106 ?_
 refine zQ ?_
 refine c9 (G) zX ?_
 dsimp only
 refine c8 (X := Nat) (fun j => j ≤ S.length) (fun j => S.length - j) (fun j => [(11, .v (.int .i64 (A + B + io (S.take j) (fun i => dd p true i.toNat)))), (17, .any), (105, .v (.int .i64 (j : Int)))]) (fun j G' => G') 0 rfl ?_ ?_ (fun _ _ h => h) ?_ ?_ ?_
 ·exact Nat.zero_le _
 ·exact zF
 ·rintro j hI
  exact zL
 ·exact fun _ _ _ _ h => .inl h
 rintro j hM
 dsimp only at hM ⊢
 refine yS fun _ K29 => ?_
 refine yR ?_
 refine aa rfl (cn rfl rfl rfl) ?_
 refine yN ?_
 dsimp only [St.put]
 refine K29 _ ?_
 refine yS fun _ K30 => ?_
 refine aq rfl (fun hc => ?_) (fun hc => ?_)
 ·replace hc := of_decide_eq_true hc
  obtain ⟨z0, hz0⟩ : ∃ z, S[j]? = some z := dm (by omega)
  have hzb := hS z0 (fy hz0)
  obtain ⟨z, rfl⟩ : ∃ z : Nat, z0 = (z : Int) := ⟨z0.toNat, by omega⟩
  have hzl : z < p.seconds.length := by omega
  have hgz := j4 (dd p true) hzl
  have e := uc6 (g := fun i => dd p true i.toNat) hz0
  try dsimp only at e
  rw [Int.toNat_natCast] at e
  have hbz := n3 h true z
  have hib2 := vh (g := fun i => dd p true i.toNat) (fun z => n3 h true z.toNat) (S.take j)
  have htl : (S.take j).length ≤ 20 := by rw [List.length_take]; omega
  refine ay ?_
  refine K30 _ ?_
  refine yS fun _ K31 => ?_
  refine bf ?_
  refine yS fun _ K32 => ?_
  refine yR ?_
  refine aa rfl (bw rfl rfl rfl rfl (bu (by assumption)) (Enc.len _)) ?_
  refine yL rfl rfl rfl ?_
  refine yA rfl rfl ?_
  refine yN ?_
  dsimp only [St.put]
  refine K32 _ ?_
  refine yS fun _ K33 => ?_
  refine yS fun _ K34 => ?_
  refine yR ?_
  refine yM rfl rfl ?_
  refine aa rfl (cn rfl rfl rfl) ?_
  refine yM rfl rfl ?_
  refine yM rfl rfl ?_
  refine yF rfl rfl rfl rfl ?_
  refine yL rfl rfl rfl ?_
  refine aa rfl (bn rfl rfl (List.length_map _)) ?_
  refine aa rfl ((ef (c := false) (kz rfl rfl rfl) (decide_eq_false (by rw [hk4]; omega)))) ?_
  refine aa rfl (cy rfl rfl (by constructor)) ?_
  refine yN ?_
  dsimp only [St.put]
  refine K34 _ ?_
  refine aq rfl (fun h => by cases h) (fun _ => ?_)
  refine ay ?_
  refine K33 _ ?_
  refine yR ?_
  refine yM rfl rfl ?_
  refine yF rfl rfl rfl rfl ?_
  refine yL rfl rfl rfl ?_
  refine yM rfl rfl ?_
  refine aa rfl (bw rfl rfl rfl rfl (bu (by assumption)) (Enc.len _)) ?_
  refine yL rfl rfl rfl ?_
  refine aa rfl (bx rfl rfl rfl (by omega)) ?_
  refine yA rfl rfl ?_
  refine yN ?_
  dsimp only [St.put]
  refine K31 _ ?_
  refine yR ?_
  refine aa rfl (bx rfl rfl rfl (by omega)) ?_
  refine yM rfl rfl ?_
  refine yN ?_
  dsimp only [St.put]
  rw [show A + B + io (S.take j) (fun i => dd p true i.toNat) + dd p true z = A + B + io (S.take (j + 1)) (fun i => dd p true i.toNat) by rw [e]; omega]
  exact ⟨j + 1, by omega, by omega, ⟨⟨rfl, rfl⟩, zF, zB, zN, zX⟩⟩
 replace hc := of_decide_eq_false hc
 rw [f5 (show S.length ≤ j by omega)]
 refine c7 ?_
 refine K27 _ ?_
 refine yS fun _ K35 => ?_
 refine yR ?_
 refine yM rfl rfl ?_
 refine yA rfl rfl ?_
 refine yN ?_
 dsimp only [St.put]
 refine K35 _ ?_
 refine ax ?_
 refine bh rfl (by constructor) zN zS ?_
 exact vi (by rw [← hA, ← hB]; rfl)
end Go.Proofs.YtbbdginipiljdaaGreatDoor
namespace Go.AB
open Go Go.RowKit
open Go.AB.Enc (cells)
open Go.PB (az ai PlaceD bg bj bi bv aw ah cx br da dh pc)
theorem x8 {n : Nat} {S : Nat → Bool} : ∀ z ∈ gi n S, 0 ≤ z ∧ z < (n : Int) := fun z hz => by
 obtain ⟨i, e, hi, _⟩ := memL_mem.1 hz
 omega
end Go.AB
namespace Go.Proofs.YtbbdginipiljdaaGreatDoor
set_option maxRecDepth 10000
open Go Go.RowKit Go.AB
open Go.AB.Enc (cells)
open Go.PB (az ai PlaceD bg bj bi bv aw ah cx br da dh pc)
theorem yd (n s : Nat) (hs : s ≤ 1000) (hn : n ≤ 12) : Pure Tryz.prog 37 [.v (.int .i64 (n : Int)), .v (.int .i64 (s : Int))] (lst (cr n s)) := by
 refine c6 Tryz.func37 rfl (fun m => (bz _ _)) fun G nx => ?_
 simp only [Tryz.ntmps37, List.length_cons, List.length_nil, Nat.reduceAdd, Nat.reduceSub]
 refine ca fun hlt => ?_
 dsimp only at hlt
 refine yS fun _ K1 => ?_
 refine yR ?_
 refine yA rfl rfl ?_
 refine yN ?_
 dsimp only [St.put]
 refine K1 _ ?_
 refine yS fun _ K2 => ?_
 refine yR ?_
 refine yA rfl rfl ?_
 refine yN ?_
 dsimp only [St.put]
 refine K2 _ ?_
 refine n5 5 3 1 rfl (by decide) ?_
 dsimp only [List.set_cons_zero, List.set_cons_succ]
 refine yS fun _ K3 => ?_
 refine yS fun _ K4 => ?_
 refine yR ?_
 refine yM rfl rfl ?_
 refine yM rfl rfl ?_
 refine yN ?_
 dsimp only [St.put]
 refine K4 _ ?_
 refine bf ?_
 refine ct 9 ?_
 refine zQ ?_
 refine c9 ((am G nx (.tip (cr 0 s).length 3 1))) zX ?_
 dsimp only
 refine c8 (X := Nat) (fun k => k ≤ n) (fun k => n - k) (fun k => [(5, .list ((cr k s).map cells) (.tip nx)), (6, .any), (8, .v (.int .i64 (k : Int)))]) (fun k G' => (am G nx (.tip (cr k s).length 3 1))) 0 rfl ?_ ?_ ?_ ?_ ?_ ?_
 ·exact Nat.zero_le _
 ·exact zF
 ·exact zX
 ·rintro k hI
  exact zL
 ·rintro k hI
  exact zH
 rintro k hI
 dsimp only at hI ⊢
 refine yS fun _ K5 => ?_
 refine yR ?_
 refine aa rfl (cn rfl rfl rfl) ?_
 refine yN ?_
 dsimp only [St.put]
 refine K5 _ ?_
 refine yS fun _ K6 => ?_
 refine aq rfl (fun hc => ?_) (fun hc => ?_)
 ·replace hc := of_decide_eq_true hc
  have hml := mw k s
  refine ay ?_
  refine K6 _ ?_
  refine yS fun _ K7 => ?_
  refine bf ?_
  refine yS fun _ K8 => ?_
  refine yR ?_
  refine yM rfl rfl ?_
  refine yA rfl rfl ?_
  refine yN ?_
  dsimp only [St.put]
  refine K8 _ ?_
  refine yS fun _ K9 => ?_
  refine yR ?_
  refine yM rfl rfl ?_
  refine yM rfl rfl ?_
  refine aa rfl (uv (m := s) (n := k) rfl rfl rfl (by show k ≤ 64; omega) (by show (s : Int) ≤ 9223372036854775807; omega) (by decide)) ?_
  refine aa rfl (uz (m := s / 2 ^ k) rfl rfl rfl (Nat.lt_of_le_of_lt (Nat.div_le_self _ _) (by show s < 2 ^ 64; omega)) (by decide)) ?_
  refine aa rfl (fo rfl rfl rfl) ?_
  refine yN ?_
  dsimp only [St.put]
  refine K9 _ ?_
  refine aq rfl (fun hc => ?_) (fun hc => ?_)
  ·have hb : s.testBit k = true := bit_eq.1 (of_decide_eq_true hc)
   refine yR ?_
   refine yM rfl rfl ?_
   refine yM rfl rfl ?_
   try dsimp only [St.put]
   refine af rfl (b9 rfl rfl rfl (by decide) (by decide) zR (by decide) ?_)
   try dsimp only [St.put]
   refine af rfl (ce ([(k : Int)]) rfl rfl zG zE rfl rfl zA ?_ zA)
   refine yA rfl rfl ?_
   refine yN ?_
   dsimp only [St.put]
   refine K7 _ ?_
   refine yR ?_
   refine aa rfl (bx rfl rfl rfl (by omega)) ?_
   refine yM rfl rfl ?_
   refine yN ?_
   dsimp only [St.put]
   have e := u6 k s
   first
   | (have q : s.testBit k = true := hb
      rw [q, cond_true] at e
      rw [← e]
      exact ⟨k + 1, by omega, by omega, ⟨⟨rfl, rfl⟩, zF, zB, zN, zX⟩⟩)
   | (have q : s.testBit k = false := hb
      rw [q, cond_false, List.append_nil] at e
      rw [← e]
      exact ⟨k + 1, by omega, by omega, ⟨⟨rfl, rfl⟩, zF, zB, zN, zX⟩⟩)
  have hb : s.testBit k = false := by
   have := of_decide_eq_false hc
   rw [bit_eq, Bool.not_eq_true] at this
   exact this
  refine ay ?_
  refine K7 _ ?_
  refine yR ?_
  refine aa rfl (bx rfl rfl rfl (by omega)) ?_
  refine yM rfl rfl ?_
  refine yN ?_
  dsimp only [St.put]
  have e := u6 k s
  first
  | (have q : s.testBit k = true := hb
     rw [q, cond_true] at e
     rw [← e]
     exact ⟨k + 1, by omega, by omega, ⟨⟨rfl, rfl⟩, zF, zB, zN, zX⟩⟩)
  | (have q : s.testBit k = false := hb
     rw [q, cond_false, List.append_nil] at e
     rw [← e]
     exact ⟨k + 1, by omega, by omega, ⟨⟨rfl, rfl⟩, zF, zB, zN, zX⟩⟩)
 replace hc := of_decide_eq_false hc
 obtain rfl : k = n := by omega
 refine c7 ?_
 refine K3 _ ?_
 refine yS fun _ K10 => ?_
 refine yR ?_
 refine yM rfl rfl ?_
 refine yA rfl rfl ?_
 refine yN ?_
 dsimp only [St.put]
 refine K10 _ ?_
 refine ax ?_
 refine p6 rfl (ed (by constructor)) zN zS ?_
 exact zW
end Go.Proofs.YtbbdginipiljdaaGreatDoor
namespace Go.AB
open Go Go.RowKit
open Go.AB.Enc (cells)
open Go.PB (az ai PlaceD bg bj bi bv aw ah cx br da dh pc)
theorem uck (n : Nat) : gi n (fun _ => false) = [] := by
 unfold gi
 rw [List.filter_eq_nil_iff.2 (by simp)]; rfl
theorem ujy (n s : Nat) : (cr n s).Pairwise (· < ·) := by
 unfold cr si
 refine List.Pairwise.map (fun i : Nat => (i : Int)) (R := (· < ·)) (fun a b h => by omega) ?_
 exact List.Pairwise.filter _ List.pairwise_lt_range
theorem ujz {n s k : Nat} {x y : Int} (hx : (cr n s)[k]? = some x) (hy : (cr n s)[k + 1]? = some y) : x < y := by
 obtain ⟨h1, e1⟩ := List.getElem?_eq_some_iff.1 hx
 obtain ⟨h2, e2⟩ := List.getElem?_eq_some_iff.1 hy
 rw [← e1, ← e2]
 exact List.pairwise_iff_getElem.1 (ujy n s) k (k + 1) h1 h2 (by omega)
/-- what two sets of readers prove -/
def ow (p : ah) (but : List Int) (f s : Nat) : Int := nj p (cr p.firsts.length f) (cr p.seconds.length s) but
theorem uny {p : ah} (h : dv p) (but : List Int) (f s : Nat) : ju p but ≤ ow p but f s := by
 have := (zk h but).1 fun i => bif decide (i < p.firsts.length) then f.testBit i else s.testBit (i - p.firsts.length)
 have e1 : (gi p.firsts.length fun i => bif decide (i < p.firsts.length) then f.testBit i else s.testBit (i - p.firsts.length)) = cr p.firsts.length f := sj fun i hi => by rw [decide_eq_true hi]; rfl
 have e2 : (gi p.seconds.length fun i => bif decide (p.firsts.length + i < p.firsts.length) then f.testBit (p.firsts.length + i) else s.testBit (p.firsts.length + i - p.firsts.length)) = cr p.seconds.length s := sj fun i _ => by rw [decide_eq_false (by omega), Nat.add_sub_cancel_left]; rfl
 rw [e1, e2] at this
 exact this
theorem un0 {p : ah} (h : dv p) (but : List Int) : ju p but ≤ nj p [] [] but := by
 have := (zk h but).1 fun _ => false
 rwa [uck, uck] at this
theorem unz {p : ah} (h : dv p) (but : List Int) {v : Int} (h1 : ju p but ≤ v) (h2 : ∀ f, f < 2 ^ p.firsts.length → ∀ s, s < 2 ^ p.seconds.length → v ≤ ow p but f s) : v = ju p but := by
 obtain ⟨S, hS⟩ := (zk h but).2
 have := h2 (jd S p.firsts.length) (ra _ _) (jd (fun i => S (p.firsts.length + i)) p.seconds.length) (ra _ _)
 have e1 : cr p.firsts.length (jd S p.firsts.length) = gi p.firsts.length S := sj fun i hi => by rw [rb, decide_eq_true hi]; rfl
 have e2 : cr p.seconds.length (jd (fun i => S (p.firsts.length + i)) p.seconds.length) = gi p.seconds.length fun i => S (p.firsts.length + i) := sj fun i hi => by rw [rb, decide_eq_true hi]; rfl
 unfold ow at this
 rw [e1, e2, ← hS] at this
 omega
/-- other pages, by the bits of a number -/
theorem umk {p : ah} (h : dv p) (ht : gm p = true) {m : Int} (hm : 0 ≤ m) (B : Nat) (hb : g4 (cr p.pages.length B) (j1 (lm p m) p.pages.length) = true) : m < ju p (cr p.pages.length B) := by
 have hB := ueg h ht hm
 have e : cr p.pages.length (jd (fun i => B.testBit i) p.pages.length) = cr p.pages.length B := sj fun i hi => by rw [rb, decide_eq_true hi]; rfl
 rcases Int.lt_or_le m (ju p (cr p.pages.length B)) with q | q
 ·exact q
 have := hB.min (jd (fun i => B.testBit i) p.pages.length) (ra _ _) (by unfold lm; rw [e]; exact decide_eq_true q)
 rw [e, hb] at this
 cases this
/-- what is left of the worst truth on the first pages -/
noncomputable def pj (p : ah) (l : List Int) (k : Nat) : Int := sm k fun j => bif decide ((j : Int) ∈ l) then 0 else f3 p j
theorem ua5 (p : ah) (l : List Int) (k : Nat) : pj p l (k + 1) = pj p l k + bif decide ((k : Int) ∈ l) then 0 else f3 p k := rfl
theorem xh {p : ah} (h : dv p) (ht : gm p = true) (l : List Int) : ∀ k, k ≤ p.pages.length → 0 ≤ pj p l k ∧ pj p l k ≤ k * 600
 | 0, _ => by simp [pj, sm]
 | k + 1, hk => by
  have ih := xh h ht l k (by omega)
  have hf := (Net.worst_feas (pr h) (t6 ht) fun j _ => tf h j).page k hk
  have hc := vy h k
  have e : ((k + 1 : Nat) : Int) * 600 = (k : Int) * 600 + 600 := by rw [Int.natCast_add, Int.add_mul]; simp
  have hw : 0 ≤ f3 p k ∧ f3 p k ≤ 600 := ⟨hf.1, Int.le_trans hf.2 hc.2⟩
  rw [ua5]
  cases decide ((k : Int) ∈ l)
  ·rw [cond_false]; omega
  rw [cond_true]; omega
theorem ufr {p : ah} (h : dv p) (ht : gm p = true) {i : Nat} (hi : i < p.pages.length) : 0 ≤ f3 p i ∧ f3 p i ≤ 600 := by
 have h1 := ((Net.worst_feas (pr h) (t6 ht) fun j _ => tf h j).page i hi)
 have h2 := vy h i
 exact ⟨h1.1, Int.le_trans h1.2 h2.2⟩
theorem uhx {p : ah} (h : dv p) (ht : gm p = true) (l : List Int) : pj p l p.pages.length ≤ ju p l := ufq h ht l
end Go.AB
namespace Go.Proofs.YtbbdginipiljdaaGreatDoor
set_option maxRecDepth 10000
open Go Go.RowKit Go.AB
open Go.AB.Enc (cells)
open Go.PB (az ai PlaceD bg bj bi bv aw ah cx br da dh pc)
theorem ukx (p : ah) (but : List Int) (h : dv p) (lB : but.length ≤ 20) : Pure Tryz.prog 32 [val (o1 p), val p, .list [] .nil, .list [] .nil, lst but] (.v (.int .i64 (nj p [] [] but))) :=
 (uc1 p [] [] but h (by simp) (by simp) (by simp) (by simp) lB).wk ⟨Wk.refl _, Wk.refl _, Wk.tok, Wk.tok, Wk.refl _, trivial⟩
theorem uky (p : ah) (but : List Int) (f s : Nat) (h : dv p) (lB : but.length ≤ 20) : Pure Tryz.prog 32 [val (o1 p), val p, lst (cr p.firsts.length f), lst (cr p.seconds.length s), lst but] (.v (.int .i64 (ow p but f s))) :=
 uc1 p _ _ but h (fun z hz => x8 (S := fun i => f.testBit i) z hz) (fun z hz => x8 (S := fun i => s.testBit i) z hz) (by have := mw p.firsts.length f; have := h.nf; omega) (by have := mw p.seconds.length s; have := h.ns; omega) lB
set_option maxHeartbeats 1000000 in
theorem uc2 (p : ah) (but : List Int) (h : dv p) (lB : but.length ≤ 20) : Pure Tryz.prog 38 [val (o1 p), val p, lst but] (.v (.int .i64 (ju p but))) := by
 refine c6 Tryz.func38 rfl (fun m => .v) fun G nx => ?_
 simp only [Tryz.ntmps38, List.length_cons, List.length_nil, Nat.reduceAdd, Nat.reduceSub]
 refine ca fun hlt => ?_
 dsimp only at hlt
 have hn1 := h.nf
 have hn2 := h.ns
 have h8 : 2 ^ p.firsts.length ≤ 2 ^ 3 := Nat.pow_le_pow_right (by omega) hn1
 have h9 : 2 ^ p.seconds.length ≤ 2 ^ 3 := Nat.pow_le_pow_right (by omega) hn2
 have hst := un0 h but
 refine yS fun _ K1 => ?_
 refine yR ?_
 try dsimp only [St.put]
 refine yB rfl rfl rfl ?_
 try dsimp only [St.put]
 refine yB rfl rfl rfl ?_
 refine yA rfl rfl ?_
 refine yN ?_
 dsimp only [St.put]
 refine K1 _ ?_
 refine yS fun _ K2 => ?_
 refine yR ?_
 refine yE rfl rfl rfl ?_
 refine yE rfl rfl rfl ?_
 refine yM rfl rfl ?_
 try dsimp only [St.put]
 refine af rfl (bc rfl rfl rfl (ukx p but h lB) ?_)
 refine yA rfl rfl ?_
 refine yN ?_
 dsimp only [St.put]
 refine K2 _ ?_
 refine yS fun _ K3 => ?_
 refine yS fun _ K4 => ?_
 refine yR ?_
 refine yF rfl rfl rfl rfl ?_
 refine yL rfl rfl rfl ?_
 refine aa rfl (bn rfl rfl (List.length_map _)) ?_
 refine aa rfl (uw (n := p.firsts.length) rfl rfl rfl (by omega)) ?_
 refine yM rfl rfl ?_
 refine yN ?_
 dsimp only [St.put]
 refine K4 _ ?_
 refine bf ?_
 refine ct 19 ?_
 refine zQ ?_
 refine c9 (G) zX ?_
 dsimp only
 refine c8 (X := Nat × Int) (fun y => y.1 ≤ 2 ^ p.firsts.length ∧ ju p but ≤ y.2 ∧ ∀ f, f < y.1 → ∀ s, s < 2 ^ p.seconds.length → y.2 ≤ ow p but f s) (fun y => 2 ^ p.firsts.length - y.1) (fun y => [(7, .v (.int .i64 y.2)), (8, .any), (9, .any), (18, .v (.int .i64 (y.1 : Int)))]) (fun y G' => G') (0, nj p [] [] but) rfl ?_ ?_ (fun _ _ h => h) ?_ ?_ ?_
 ·exact ⟨Nat.zero_le _, hst, fun f hf => absurd hf (Nat.not_lt_zero _)⟩
 ·exact zF
 ·rintro ⟨f, v⟩ hI
  exact zL
 ·exact fun _ _ _ _ h => .inl h
 rintro ⟨f, v⟩ hI
 dsimp only at hI ⊢
 refine yS fun _ K5 => ?_
 refine yR ?_
 refine aa rfl (cn rfl rfl rfl) ?_
 refine yN ?_
 dsimp only [St.put]
 refine K5 _ ?_
 refine yS fun _ K6 => ?_
 refine aq rfl (fun hc => ?_) (fun hc => ?_)
 ·replace hc := of_decide_eq_true hc
  have hfl : f < 2 ^ p.firsts.length := by omega
  refine ay ?_
  refine K6 _ ?_
  refine yS fun _ K7 => ?_
  refine bf ?_
  refine yS fun _ K8 => ?_
  refine yR ?_
  refine yM rfl rfl ?_
  refine yA rfl rfl ?_
  refine yN ?_
  dsimp only [St.put]
  refine K8 _ ?_
  refine yS fun _ K9 => ?_
  refine yR ?_
  refine yF rfl rfl rfl rfl ?_
  refine yL rfl rfl rfl ?_
  refine aa rfl (bn rfl rfl (List.length_map _)) ?_
  refine aa rfl (uw (n := p.seconds.length) rfl rfl rfl (by omega)) ?_
  refine yM rfl rfl ?_
  refine yN ?_
  dsimp only [St.put]
  refine K9 _ ?_
  refine bf ?_
  refine ct 26 ?_
  refine zQ ?_
  refine c9 (G) zX ?_
  dsimp only
  refine c8 (X := Nat × Int) (fun y => y.1 ≤ 2 ^ p.seconds.length ∧ ju p but ≤ y.2 ∧ (∀ f', f' < f → ∀ s, s < 2 ^ p.seconds.length → y.2 ≤ ow p but f' s) ∧ ∀ s, s < y.1 → y.2 ≤ ow p but f s) (fun y => 2 ^ p.seconds.length - y.1) (fun y => [(7, .v (.int .i64 y.2)), (9, .any), (25, .v (.int .i64 (y.1 : Int)))]) (fun y G' => G') (0, v) rfl ?_ ?_ (fun _ _ h => h) ?_ ?_ ?_
  ·exact ⟨Nat.zero_le _, hI.2.1, hI.2.2, fun s hs => absurd hs (Nat.not_lt_zero _)⟩
  ·exact zF
  ·rintro ⟨s, u⟩ hI
   exact zL
  ·exact fun _ _ _ _ h => .inl h
  rintro ⟨s, u⟩ hJ
  dsimp only at hJ ⊢
  refine yS fun _ K10 => ?_
  refine yR ?_
  refine aa rfl (cn rfl rfl rfl) ?_
  refine yN ?_
  dsimp only [St.put]
  refine K10 _ ?_
  refine yS fun _ K11 => ?_
  refine aq rfl (fun hc => ?_) (fun hc => ?_)
  ·replace hc := of_decide_eq_true hc
   have hsl : s < 2 ^ p.seconds.length := by omega
   refine ay ?_
   refine K11 _ ?_
   refine yS fun _ K12 => ?_
   refine bf ?_
   refine yS fun _ K13 => ?_
   refine yR ?_
   refine yM rfl rfl ?_
   refine yA rfl rfl ?_
   refine yN ?_
   dsimp only [St.put]
   refine K13 _ ?_
   refine g5 [(0, none), (1, none), (2, none), (3, none), (4, none), (5, none), (6, none), (8, none), (9, none), (10, none), (11, none), (13, none), (7, none), (12, none), (14, none), (15, none), (16, none)] (fun i => [14].contains i) (fun i => [7, 12, 14].contains i) (fun i => [0, 3, 5, 6, 8, 10, 11, 13, 15, 16].contains i) [] (by kernel_rfl) (by kernel_rfl) ?_
   refine xM rfl rfl rfl rfl rfl ?_
   try dsimp only [St.put]
   refine bd rfl rfl rfl rfl (e8 rfl rfl (Enc.len _)) ?_
   try dsimp only [St.put]
   refine bd rfl rfl rfl rfl (e8 rfl rfl (Enc.len _)) ?_
   refine ae rfl rfl rfl rfl (c4 rfl rfl rfl) ?_
   try dsimp only [St.put]
   refine bd rfl rfl rfl rfl (cm rfl rfl) ?_
   refine ae rfl rfl rfl rfl (bn rfl rfl (List.length_map _)) ?_
   refine xM rfl rfl rfl rfl rfl ?_
   refine ae rfl rfl rfl rfl (c4 rfl rfl rfl) ?_
   try dsimp only [St.put]
   refine bd rfl rfl rfl rfl (cm rfl rfl) ?_
   refine ae rfl rfl rfl rfl (bn rfl rfl (List.length_map _)) ?_
   refine xM rfl rfl rfl rfl rfl ?_
   refine xM rfl rfl rfl rfl rfl ?_
   refine jl ?_
   try dsimp only [St.put]
   refine j2 rfl rfl rfl (bc rfl rfl rfl (yd p.firsts.length f (by omega) (by omega)) ⟨zD, ?_⟩)
   try dsimp only [St.put]
   refine j2 rfl rfl rfl (bc rfl rfl rfl (yd p.seconds.length s (by omega) (by omega)) ⟨zD, ?_⟩)
   try dsimp only [St.put]
   refine iv rfl rfl rfl rfl (bc rfl rfl rfl (uky p but f s h lB) ?_)
   refine em rfl rfl rfl rfl (x5 rfl rfl rfl rfl) ?_
   refine em rfl rfl rfl rfl (fp rfl (by constructor)) ?_
   refine jk ?_
   dsimp only [St.put]
   refine K12 _ ?_
   refine yR ?_
   refine aa rfl (bx rfl rfl rfl (by omega)) ?_
   refine yM rfl rfl ?_
   refine yN ?_
   dsimp only [St.put]
   exact ⟨(s + 1, min u (ow p but f s)), by (dsimp only; omega), ⟨by (dsimp only; omega), by have := uny h but f s; have := hJ.2.1; dsimp only; omega, fun f' hf' s' hs' => by have := hJ.2.2.1 f' hf' s' hs'; dsimp only; omega, fun s' hs' => by
     by_cases e : s' = s
     ·subst e; dsimp only; omega
     have := hJ.2.2.2 s' (by have : s' < s + 1 := hs'; omega); dsimp only; omega⟩, ⟨⟨rfl, rfl⟩, zF, zB, zN, zX⟩⟩
  replace hc := of_decide_eq_false hc
  refine c7 ?_
  refine K7 _ ?_
  refine yR ?_
  refine aa rfl (bx rfl rfl rfl (by omega)) ?_
  refine yM rfl rfl ?_
  refine yN ?_
  dsimp only [St.put]
  exact ⟨(f + 1, u), by (dsimp only; omega), ⟨by (dsimp only; omega), hJ.2.1, fun f' hf' s' hs' => by
    by_cases e : f' = f
    ·subst e; exact hJ.2.2.2 s' (by omega)
    exact hJ.2.2.1 f' (by have : f' < f + 1 := hf'; omega) s' hs'⟩, ⟨⟨rfl, rfl⟩, zF, zB, zN, zX⟩⟩
 replace hc := of_decide_eq_false hc
 refine c7 ?_
 refine K3 _ ?_
 refine yS fun _ K14 => ?_
 refine yR ?_
 refine yM rfl rfl ?_
 refine yA rfl rfl ?_
 refine yN ?_
 dsimp only [St.put]
 refine K14 _ ?_
 refine ax ?_
 refine bh rfl (by constructor) zN zS ?_
 exact vi (unz h but hI.2.1 fun f' hf' s' hs' => hI.2.2 f' (by omega) s' hs')
theorem uk3 (n : Nat) (p : ah) (m : Int) (h0 : cw p = 0) (ht : gm p = true) (hm : 0 ≤ m) : et n eo Tryz.prog 35 [val p, .v (.int .i64 m)] (.tup [lst (j1 (lm p m) p.pages.length), .v (.int .i64 0)]) := by
 have hE : i3 p m = 0 := ueh h0 (by omega) ht
 have := xo n p m
 rwa [hE, show ji p m = j1 (lm p m) p.pages.length by unfold ji; rw [hE, n7]] at this
theorem uk2 (n : Nat) (p : ah) (m : Int) (h0 : cw p = 0) (ht : gm p = false) (hm : 0 ≤ m) : et n eo Tryz.prog 35 [val p, .v (.int .i64 m)] (.tup [lst (ji p m), .v (.int .i64 8)]) := by
 have := xo n p m
 rwa [uei h0 (by omega) ht] at this
theorem ukt (n : Nat) (p : ah) (h : fh p (cw p) = 8) : et n eo Tryz.prog 15 [val p] (.tup [lst (mj p), .v (.int .i64 8)]) := by
 have := xl n p
 rwa [h] at this
set_option maxHeartbeats 4000000 in
theorem umj (p : ah) (a b : Int) : et 0 eo Tryz.prog 8 [val p, .v (.int .u8 a), .v (.int .u8 b)] (.v (.bool true)) := fun G nx hF hnx => by
 refine ii (G) (nx) Tryz.func8 rfl (.v) zN (fun hlt => zH) ?_
 simp only [Tryz.ntmps8, List.length_cons, List.length_nil, Nat.reduceAdd, Nat.reduceSub]
 refine ca fun hlt => ?_
 dsimp only at hlt
 refine kj 1 (fun hfa => ?_)
 replace hfa := zz hfa
 refine kj 2 (fun hfb => ?_)
 replace hfb := zz hfb
 obtain ⟨B, rfl⟩ : ∃ B : Nat, b = (B : Int) := ⟨b.toNat, by omega⟩
 obtain ⟨m, hm⟩ : ∃ m, a % 12 = m := ⟨_, rfl⟩
 have hm0 : 0 ≤ m ∧ m < 12 := by omega
 refine yS fun _ K1 => ?_
 refine yR ?_
 try dsimp only [St.put]
 refine yB rfl rfl rfl ?_
 refine yA rfl rfl ?_
 refine yN ?_
 dsimp only [St.put]
 refine K1 _ ?_
 refine yS fun _ K2 => ?_
 refine yR ?_
 try dsimp only [St.put]
 refine af rfl ((ec rfl rfl rfl ((unn 0)) zG (by dsimp only [St.put]; omega) ?_))
 refine yA rfl rfl ?_
 refine yN ?_
 dsimp only [St.put]
 refine K2 _ ?_
 refine yS fun _ K3 => ?_
 refine yS fun _ K4 => ?_
 refine yR ?_
 refine yE rfl rfl rfl ?_
 try dsimp only [St.put]
 refine af rfl (bc rfl rfl rfl (ukw p) ?_)
 refine aa rfl (dw rfl rfl) ?_
 refine ey (fun hs => ?_) (fun hs => ?_)
 ·skip
  refine yM rfl rfl ?_
  refine yK rfl ?_
  refine yK rfl ?_
  refine aa rfl (cg rfl rfl (by constructor)) ?_
  refine yN ?_
  dsimp only [St.put]
  refine K4 _ ?_
  refine aq rfl (fun _ => ?_) (fun h => by cases h)
  refine yS fun _ K5 => ?_
  refine yR ?_
  refine yM rfl rfl ?_
  refine yA rfl rfl ?_
  refine yN ?_
  dsimp only [St.put]
  refine K5 _ ?_
  refine ax ?_
  refine bh rfl (by constructor) zN zS ?_
  rfl
 have hrd : ql p = true := by simpa using hs
 have hC := (readyP_true.1 hrd).2
 obtain ⟨hok, _⟩ := ld hC
 have hnp := hok.np
 have hL0 : fh p (cw p) = bif gm p then 0 else 8 := by rw [hC, qv]
 refine yM rfl rfl ?_
 refine yM rfl rfl ?_
 refine aa rfl (dw rfl rfl) ?_
 refine aa rfl (cy rfl rfl (by constructor)) ?_
 refine yN ?_
 dsimp only [St.put]
 refine K4 _ ?_
 refine aq rfl (fun h => by cases h) (fun _ => ?_)
 refine ay ?_
 refine K3 _ ?_
 refine yS fun _ K6 => ?_
 refine yR ?_
 refine yM rfl rfl ?_
 refine aa rfl ((ucd rfl rfl rfl rfl (by omega))) ?_
 refine aa rfl ((ujl hm rfl rfl rfl (by omega) (by omega))) ?_
 refine yA rfl rfl ?_
 refine yN ?_
 dsimp only [St.put]
 refine K6 _ ?_
 refine yS fun _ K7 => ?_
 by_cases hT : gm p = true
 ·have hL : fh p (cw p) = 0 := by rw [hL0, hT]; rfl
  have hbest := ueg hok hT hm0.1
  obtain ⟨s0, hs1, hs2, hs3⟩ := hbest.get
  have hfew : ju p (cr p.pages.length s0) ≤ m := of_decide_eq_true hs2
  have hml := mw p.pages.length s0
  have hin : ∀ z ∈ cr p.pages.length s0, 0 ≤ z ∧ z < (p.pages.length : Int) := fun z hz => x8 (S := fun i => s0.testBit i) z hz
  have hra := uhx hok hT (cr p.pages.length s0)
  have hr0 := xh hok hT (cr p.pages.length s0) p.pages.length (Nat.le_refl _)
  have hoth := umk hok hT hm0.1 B
  have hCH := uk3 0 p m hC hT hm0.1
  rw [hs3] at hoth hCH
  have hwl := gt p.pages.length (f3 p)
  have hol := mw p.pages.length B
  refine yR ?_
  refine yE rfl rfl rfl ?_
  refine yM rfl rfl ?_
  try dsimp only [St.put]
  refine af rfl ((ec rfl rfl rfl (hCH) zG (by dsimp only [St.put]; omega) ?_))
  refine yM rfl rfl ?_
  refine yX rfl rfl rfl rfl ?_
  refine yX rfl rfl rfl rfl ?_
  refine yA rfl rfl ?_
  refine yA rfl rfl ?_
  refine yN ?_
  dsimp only [St.put]
  refine K7 _ ?_
  refine yS fun _ K8 => ?_
  refine yR ?_
  refine yE rfl rfl rfl ?_
  try dsimp only [St.put]
  refine af rfl ((ec rfl rfl rfl ((uku 0 p hL)) zG (by dsimp only [St.put]; omega) ?_))
  refine yM rfl rfl ?_
  refine yX rfl rfl rfl rfl ?_
  refine yX rfl rfl rfl rfl ?_
  refine yA rfl rfl ?_
  refine yA rfl rfl ?_
  refine yN ?_
  dsimp only [St.put]
  refine K8 _ ?_
  refine yS fun _ K9 => ?_
  refine yS fun _ K10 => ?_
  refine yR ?_
  refine yM rfl rfl ?_
  refine aa rfl ((ef (c := false) (fb rfl rfl rfl) (pq rfl))) ?_
  refine yN ?_
  dsimp only [St.put]
  refine K10 _ ?_
  refine aq rfl (fun h => by cases h) (fun _ => ?_)
  refine ay ?_
  refine K9 _ ?_
  refine yS fun _ K11 => ?_
  refine yS fun _ K12 => ?_
  refine yR ?_
  refine yM rfl rfl ?_
  refine aa rfl ((ef (c := false) (fb rfl rfl rfl) (pq rfl))) ?_
  refine yM rfl rfl ?_
  refine yM rfl rfl ?_
  refine aa rfl (bn rfl rfl (List.length_map _)) ?_
  refine yF rfl rfl rfl rfl ?_
  refine yL rfl rfl rfl ?_
  refine aa rfl (bn rfl rfl (List.length_map _)) ?_
  refine aa rfl ((ef (c := false) (fb rfl rfl rfl) (pq (by rw [hwl])))) ?_
  refine aa rfl (cy rfl rfl (by constructor)) ?_
  refine yN ?_
  dsimp only [St.put]
  refine K12 _ ?_
  refine aq rfl (fun h => by cases h) (fun _ => ?_)
  refine ay ?_
  refine K11 _ ?_
  refine yS fun _ K13 => ?_
  refine yR ?_
  refine yA rfl rfl ?_
  refine yN ?_
  dsimp only [St.put]
  refine K13 _ ?_
  refine yS fun _ K14 => ?_
  refine yS fun _ K15 => ?_
  refine yR ?_
  refine yM rfl rfl ?_
  refine aa rfl (bn rfl rfl (List.length_map _)) ?_
  refine yM rfl rfl ?_
  refine yN ?_
  dsimp only [St.put]
  refine K15 _ ?_
  refine bf ?_
  refine ct 70 ?_
  refine zQ ?_
  refine c9 (G) zX ?_
  dsimp only
  refine c8 (X := Nat) (fun k => k ≤ p.pages.length) (fun k => p.pages.length - k) (fun k => [(13, .v (.int .i64 (pj p (cr p.pages.length s0) k))), (14, .any), (15, .any), (69, .v (.int .i64 (k : Int)))]) (fun k G' => G') 0 rfl ?_ ?_ (fun _ _ h => h) ?_ ?_ ?_
  ·exact Nat.zero_le _
  ·exact zF
  ·rintro k hI
   exact zL
  ·exact fun _ _ _ _ h => .inl h
  rintro k hI
  dsimp only at hI ⊢
  refine yS fun _ K16 => ?_
  refine yR ?_
  refine aa rfl (cn rfl rfl rfl) ?_
  refine yN ?_
  dsimp only [St.put]
  refine K16 _ ?_
  refine yS fun _ K17 => ?_
  refine aq rfl (fun hc => ?_) (fun hc => ?_)
  ·replace hc := of_decide_eq_true hc
   have hkl : k < p.pages.length := by
    have : (k : Int) < ((bp p.pages.length (f3 p)).length : Int) := hc
    rw [hwl] at this
    omega
   have hgw := j4 (f3 p) hkl
   have e := ua5 p (cr p.pages.length s0) k
   have hrb := xh hok hT (cr p.pages.length s0) k (by omega)
   have hwb := ufr hok hT hkl
   refine ay ?_
   refine K17 _ ?_
   refine yS fun _ K18 => ?_
   refine bf ?_
   refine yS fun _ K19 => ?_
   refine yR ?_
   refine yM rfl rfl ?_
   refine aa rfl (bw rfl rfl rfl rfl (bu (by assumption)) (Enc.len _)) ?_
   refine yL rfl rfl rfl ?_
   refine yA rfl rfl ?_
   refine yA rfl rfl ?_
   refine yN ?_
   dsimp only [St.put]
   refine K19 _ ?_
   refine yS fun _ K20 => ?_
   refine yR ?_
   refine yM rfl rfl ?_
   refine yM rfl rfl ?_
   try dsimp only [St.put]
   refine af rfl (bc rfl rfl rfl (m4 (cr p.pages.length s0) (k : Int) (by omega)) ?_)
   refine aa rfl (dw rfl rfl) ?_
   refine yN ?_
   dsimp only [St.put]
   refine K20 _ ?_
   refine aq rfl (fun hc => ?_) (fun hc => ?_)
   ·have hm1 : decide ((k : Int) ∈ cr p.pages.length s0) = false := by simpa using hc
    refine yR ?_
    refine yM rfl rfl ?_
    refine yM rfl rfl ?_
    refine aa rfl (bx rfl rfl rfl (by omega)) ?_
    refine yA rfl rfl ?_
    refine yN ?_
    dsimp only [St.put]
    refine K18 _ ?_
    refine yR ?_
    refine aa rfl (bx rfl rfl rfl (by omega)) ?_
    refine yM rfl rfl ?_
    refine yN ?_
    dsimp only [St.put]
    first
    | (have q : decide ((k : Int) ∈ cr p.pages.length s0) = false := hm1
       rw [q, cond_false] at e
       rw [← e]
       exact ⟨k + 1, by omega, by omega, ⟨⟨rfl, rfl⟩, zF, zB, zN, zX⟩⟩)
    | (have q : decide ((k : Int) ∈ cr p.pages.length s0) = true := hm2
       rw [q, cond_true, Int.add_zero] at e
       rw [← e]
       exact ⟨k + 1, by omega, by omega, ⟨⟨rfl, rfl⟩, zF, zB, zN, zX⟩⟩)
   have hm2 : decide ((k : Int) ∈ cr p.pages.length s0) = true := by simpa using hc
   refine ay ?_
   refine K18 _ ?_
   refine yR ?_
   refine aa rfl (bx rfl rfl rfl (by omega)) ?_
   refine yM rfl rfl ?_
   refine yN ?_
   dsimp only [St.put]
   first
   | (have q : decide ((k : Int) ∈ cr p.pages.length s0) = false := hm1
      rw [q, cond_false] at e
      rw [← e]
      exact ⟨k + 1, by omega, by omega, ⟨⟨rfl, rfl⟩, zF, zB, zN, zX⟩⟩)
   | (have q : decide ((k : Int) ∈ cr p.pages.length s0) = true := hm2
      rw [q, cond_true, Int.add_zero] at e
      rw [← e]
      exact ⟨k + 1, by omega, by omega, ⟨⟨rfl, rfl⟩, zF, zB, zN, zX⟩⟩)
  replace hc := of_decide_eq_false hc
  obtain rfl : k = p.pages.length := by
   have : ¬ (k : Int) < ((bp p.pages.length (f3 p)).length : Int) := hc
   rw [hwl] at this
   omega
  refine c7 ?_
  refine K14 _ ?_
  refine yS fun _ K21 => ?_
  refine yS fun _ K22 => ?_
  refine yR ?_
  refine yM rfl rfl ?_
  refine aa rfl (bn rfl rfl (List.length_map _)) ?_
  refine yM rfl rfl ?_
  refine yN ?_
  dsimp only [St.put]
  refine K22 _ ?_
  refine bf ?_
  refine ct 85 ?_
  refine zQ ?_
  refine c9 (G) zX ?_
  dsimp only
  refine c8 (X := Nat) (fun j => j ≤ (cr p.pages.length s0).length) (fun j => (cr p.pages.length s0).length - j) (fun j => [(16, .any), (17, .any), (84, .v (.int .i64 (j : Int)))]) (fun j G' => G') 0 rfl ?_ ?_ (fun _ _ h => h) ?_ ?_ ?_
  ·exact Nat.zero_le _
  ·exact zF
  ·rintro j hI
   exact zL
  ·exact fun _ _ _ _ h => .inl h
  rintro j hJ
  dsimp only at hJ ⊢
  refine yS fun _ K23 => ?_
  refine yR ?_
  refine aa rfl (cn rfl rfl rfl) ?_
  refine yN ?_
  dsimp only [St.put]
  refine K23 _ ?_
  refine yS fun _ K24 => ?_
  refine aq rfl (fun hc => ?_) (fun hc => ?_)
  ·replace hc := of_decide_eq_true hc
   obtain ⟨z, hz⟩ : ∃ z, (cr p.pages.length s0)[j]? = some z := dm (by omega)
   have hzb := hin z (fy hz)
   refine ay ?_
   refine K24 _ ?_
   refine yS fun _ K25 => ?_
   refine bf ?_
   refine yS fun _ K26 => ?_
   refine yR ?_
   refine yM rfl rfl ?_
   refine aa rfl (bw rfl rfl rfl rfl (bu (by assumption)) (Enc.len _)) ?_
   refine yL rfl rfl rfl ?_
   refine yA rfl rfl ?_
   refine yA rfl rfl ?_
   refine yN ?_
   dsimp only [St.put]
   refine K26 _ ?_
   refine yS fun _ K27 => ?_
   refine yR ?_
   refine yM rfl rfl ?_
   refine aa rfl ((ef (c := false) (cn rfl rfl rfl) (decide_eq_false (by omega)))) ?_
   refine yM rfl rfl ?_
   refine yM rfl rfl ?_
   refine yF rfl rfl rfl rfl ?_
   refine yL rfl rfl rfl ?_
   refine aa rfl (bn rfl rfl (List.length_map _)) ?_
   refine aa rfl ((ef (c := false) (kz rfl rfl rfl) (decide_eq_false (by omega)))) ?_
   refine aa rfl (cy rfl rfl (by constructor)) ?_
   refine yM rfl rfl ?_
   refine yM rfl rfl ?_
   refine aa rfl (ib rfl rfl rfl) ?_
   refine ey (fun hs => ?_) (fun hs => ?_)
   ·have hj0 := of_decide_eq_true hs
    obtain ⟨y, hy⟩ : ∃ y, (cr p.pages.length s0)[j - 1]? = some y := dm (by omega)
    have hyz := ujz hy (y := z) (by rw [show j - 1 + 1 = j by omega]; exact hz)
    refine yM rfl rfl ?_
    refine yM rfl rfl ?_
    refine yM rfl rfl ?_
    refine yM rfl rfl ?_
    refine aa rfl (gh rfl rfl rfl (by omega)) ?_
    try dsimp only [St.put]
    refine aa rfl ((bw (k := j - 1) rfl rfl rfl (by omega) (bu hy) (Enc.len _))) ?_
    refine yL rfl rfl rfl ?_
    refine aa rfl ((ef (c := false) (ox rfl rfl rfl) (decide_eq_false (by omega)))) ?_
    refine aa rfl (cg rfl rfl (by constructor)) ?_
    refine aa rfl (cy rfl rfl (by constructor)) ?_
    refine yN ?_
    dsimp only [St.put]
    refine K27 _ ?_
    refine aq rfl (fun h => by cases h) (fun _ => ?_)
    refine ay ?_
    refine K25 _ ?_
    refine yR ?_
    refine aa rfl (bx rfl rfl rfl (by omega)) ?_
    refine yM rfl rfl ?_
    refine yN ?_
    dsimp only [St.put]
    exact ⟨j + 1, by omega, by omega, ⟨⟨rfl, rfl⟩, zF, zB, zN, zX⟩⟩
   skip
   refine yM rfl rfl ?_
   refine yK rfl ?_
   refine yK rfl ?_
   refine yK rfl ?_
   refine yK rfl ?_
   refine yK rfl ?_
   refine yK rfl ?_
   refine yK rfl ?_
   refine aa rfl (cy rfl rfl (by constructor)) ?_
   refine aa rfl (cy rfl rfl (by constructor)) ?_
   refine yN ?_
   dsimp only [St.put]
   refine K27 _ ?_
   refine aq rfl (fun h => by cases h) (fun _ => ?_)
   refine ay ?_
   refine K25 _ ?_
   refine yR ?_
   refine aa rfl (bx rfl rfl rfl (by omega)) ?_
   refine yM rfl rfl ?_
   refine yN ?_
   dsimp only [St.put]
   exact ⟨j + 1, by omega, by omega, ⟨⟨rfl, rfl⟩, zF, zB, zN, zX⟩⟩
  replace hc := of_decide_eq_false hc
  refine c7 ?_
  refine K21 _ ?_
  refine yS fun _ K28 => ?_
  refine yR ?_
  refine yF rfl rfl rfl rfl ?_
  refine yL rfl rfl rfl ?_
  refine aa rfl (bn rfl rfl (List.length_map _)) ?_
  refine yM rfl rfl ?_
  refine aa rfl ((ucd rfl rfl rfl rfl (by omega))) ?_
  try dsimp only [St.put]
  refine af rfl (bc rfl rfl rfl (yd p.pages.length B (by omega) (by omega)) ?_)
  refine yA rfl rfl ?_
  refine yN ?_
  dsimp only [St.put]
  refine K28 _ ?_
  refine yS fun _ K29 => ?_
  refine yR ?_
  refine yE rfl rfl rfl ?_
  try dsimp only [St.put]
  refine af rfl ((ec rfl rfl rfl ((uk5 0 p hC)) zG (by dsimp only [St.put]; omega) ?_))
  refine yM rfl rfl ?_
  refine yX rfl rfl rfl rfl ?_
  refine yX rfl rfl rfl rfl ?_
  try dsimp only [St.put]
  refine af rfl (d7 rfl ?_)
  try dsimp only [St.put]
  refine af rfl (dj rfl rfl rfl zG rfl rfl (by rfl) ?_)
  refine yA rfl rfl ?_
  refine yN ?_
  dsimp only [St.put]
  refine K29 _ ?_
  refine gp (i := 19) rfl zG zC ?_
  dsimp only
  refine yS fun _ K30 => ?_
  refine yS fun _ K31 => ?_
  refine yR ?_
  refine yM rfl rfl ?_
  refine aa rfl (dw rfl rfl) ?_
  refine yN ?_
  dsimp only [St.put]
  refine K31 _ ?_
  refine aq rfl (fun h => by cases h) (fun _ => ?_)
  refine ay ?_
  refine K30 _ ?_
  refine yS fun _ K32 => ?_
  refine yR ?_
  refine yE rfl rfl rfl ?_
  refine yE rfl rfl rfl ?_
  refine yM rfl rfl ?_
  try dsimp only [St.put]
  refine af rfl (bc rfl rfl rfl (uc2 p (cr p.pages.length s0) hok (by omega)) ?_)
  refine yA rfl rfl ?_
  refine yN ?_
  dsimp only [St.put]
  refine K32 _ ?_
  refine yS fun _ K33 => ?_
  refine yR ?_
  refine yM rfl rfl ?_
  refine yM rfl rfl ?_
  refine yM rfl rfl ?_
  refine aa rfl ((ef (c := true) (kz rfl rfl rfl) (decide_eq_true (by omega)))) ?_
  refine aa rfl (cg rfl rfl (by constructor)) ?_
  refine yM rfl rfl ?_
  refine yM rfl rfl ?_
  refine yM rfl rfl ?_
  refine aa rfl ((ef (c := true) (ox rfl rfl rfl) (decide_eq_true hfew))) ?_
  refine aa rfl (cg rfl rfl (by constructor)) ?_
  refine yM rfl rfl ?_
  refine yM rfl rfl ?_
  refine yM rfl rfl ?_
  refine aa rfl ((ef (c := true) (ox rfl rfl rfl) (decide_eq_true hra))) ?_
  refine aa rfl (cg rfl rfl (by constructor)) ?_
  refine yM rfl rfl ?_
  refine yM rfl rfl ?_
  refine yM rfl rfl ?_
  try dsimp only [St.put]
  refine af rfl (bc rfl rfl rfl (uif (cr p.pages.length B) (cr p.pages.length s0) (by omega) (by omega)) ?_)
  refine aa rfl (dw rfl rfl) ?_
  refine ey (fun hs => ?_) (fun hs => ?_)
  ·skip
   refine yM rfl rfl ?_
   refine yK rfl ?_
   refine yK rfl ?_
   refine yK rfl ?_
   refine yK rfl ?_
   refine yK rfl ?_
   refine yK rfl ?_
   refine aa rfl (cg rfl rfl (by constructor)) ?_
   refine aa rfl (cg rfl rfl (by constructor)) ?_
   refine yA rfl rfl ?_
   refine yN ?_
   dsimp only [St.put]
   refine K33 _ ?_
   refine ax ?_
   refine bh rfl (by constructor) zN zS ?_
   rfl
  have hbf : g4 (cr p.pages.length B) (cr p.pages.length s0) = true := by simpa using hs
  have hgt := hoth hbf
  refine yM rfl rfl ?_
  refine yE rfl rfl rfl ?_
  refine yE rfl rfl rfl ?_
  refine yM rfl rfl ?_
  try dsimp only [St.put]
  refine af rfl (bc rfl rfl rfl (uc2 p (cr p.pages.length B) hok (by omega)) ?_)
  refine yM rfl rfl ?_
  refine aa rfl ((ef (c := true) (ib rfl rfl rfl) (decide_eq_true hgt))) ?_
  refine aa rfl (cy rfl rfl (by constructor)) ?_
  refine aa rfl (cg rfl rfl (by constructor)) ?_
  refine yA rfl rfl ?_
  refine yN ?_
  dsimp only [St.put]
  refine K33 _ ?_
  refine ax ?_
  refine bh rfl (by constructor) zN zS ?_
  rfl
 have hT0 : gm p = false := by simpa using hT
 have hL : fh p (cw p) = 8 := by rw [hL0, hT0]; rfl
 refine yR ?_
 refine yE rfl rfl rfl ?_
 refine yM rfl rfl ?_
 try dsimp only [St.put]
 refine af rfl ((ec rfl rfl rfl ((uk2 0 p m hC hT0 hm0.1)) zG (by dsimp only [St.put]; omega) ?_))
 refine yM rfl rfl ?_
 refine yX rfl rfl rfl rfl ?_
 refine yX rfl rfl rfl rfl ?_
 refine yA rfl rfl ?_
 refine yA rfl rfl ?_
 refine yN ?_
 dsimp only [St.put]
 refine K7 _ ?_
 refine yS fun _ K34 => ?_
 refine yR ?_
 refine yE rfl rfl rfl ?_
 try dsimp only [St.put]
 refine af rfl ((ec rfl rfl rfl ((ukt 0 p hL)) zG (by dsimp only [St.put]; omega) ?_))
 refine yM rfl rfl ?_
 refine yX rfl rfl rfl rfl ?_
 refine yX rfl rfl rfl rfl ?_
 refine yA rfl rfl ?_
 refine yA rfl rfl ?_
 refine yN ?_
 dsimp only [St.put]
 refine K34 _ ?_
 refine yS fun _ K35 => ?_
 refine yS fun _ K36 => ?_
 refine yR ?_
 refine yM rfl rfl ?_
 refine aa rfl ((ef (c := true) (fb rfl rfl rfl) rfl)) ?_
 refine yN ?_
 dsimp only [St.put]
 refine K36 _ ?_
 refine aq rfl (fun _ => ?_) (fun h => by cases h)
 refine yS fun _ K37 => ?_
 refine yR ?_
 refine yM rfl rfl ?_
 refine yM rfl rfl ?_
 refine yM rfl rfl ?_
 refine aa rfl ((ef (c := true) (fo rfl rfl rfl) (decide_eq_true rfl))) ?_
 refine aa rfl (cg rfl rfl (by constructor)) ?_
 refine yM rfl rfl ?_
 refine yM rfl rfl ?_
 refine yM rfl rfl ?_
 refine aa rfl ((ef (c := true) (fo rfl rfl rfl) (decide_eq_true rfl))) ?_
 refine aa rfl (cg rfl rfl (by constructor)) ?_
 refine yA rfl rfl ?_
 refine yN ?_
 dsimp only [St.put]
 refine K37 _ ?_
 refine ax ?_
 refine bh rfl (by constructor) zN zS ?_
 rfl
end Go.Proofs.YtbbdginipiljdaaGreatDoor
namespace Go.AB
open Go Go.RowKit Go.ChangeShapes Go.WideShapes
end Go.AB
namespace Go.Proofs.YtbbdginipiljdaaGreatDoor
set_option maxRecDepth 10000
open Go.ChangeShapes Go.WideShapes Go.ChangeAt Go.RowKit Go.AB
open Go.AB.Enc (cells)
open Go.PB (az ai PlaceD bg bj bi)
instance : OpensE Tryz.prog 3 Int := .int (by kernel_rfl)
instance : OpensE Tryz.prog 9 ByteArray := .str (by kernel_rfl)
instance : OpensE Tryz.prog 130 (List ByteArray) := .slice (e := 9) (by kernel_rfl) (by decide)
instance : OpensE Tryz.prog 127 (List (List ByteArray)) := .slice (e := 130) (by kernel_rfl) (by decide)
instance : OpensE Tryz.prog 129 az := .chap (tI := 3) (tL := 127) (by kernel_rfl)
instance : OpensE Tryz.prog 22 (List az) := .slice (e := 129) (by kernel_rfl) (by decide)
theorem ugf : jo Tryz.prog 24 [(0, 22, 1)] 1 = true := by kernel_rfl
instance : OpensE Tryz.prog 24 (List az) := .one (e := 22) ugf
theorem uig : jo Tryz.prog 61 [(0, 3, 1), (1, 3, 1), (2, 3, 1)] 3 = true := by kernel_rfl
instance : OpensE Tryz.prog 61 PlaceD := .place (tI := 3) uig
theorem umx : Tryz.prog.underlying 4 = some .bool := by kernel_rfl
theorem ownZ : ownKnob Tryz.prog.godebug = none := by kernel_rfl
end Go.Proofs.YtbbdginipiljdaaGreatDoor
namespace Go.AB
open Go Go.RowKit Go.ChangeShapes Go.WideShapes
open Go.AB.Enc (cells)
open Go.PB (az ai PlaceD bg bj bi bv aw ah cx br)
theorem OpensE.reader {P : Program} {t tI : TypeId} [oI : OpensE P tI Int] (h : jo P t [(0, tI, 1), (1, tI, 1)] 2 = true) : OpensE P t bv :=
 .struct (α := bv) h fun w cs hl hp => by
  obtain ⟨a, ha⟩ := hp (0, tI, 1) (by simp) Int inferInstance oI
  obtain ⟨b, hb⟩ := hp (1, tI, 1) (by simp) Int inferInstance oI
  match cs, hl with
  | [u, v], _ => exact ⟨⟨a, b⟩, Rs.cons (Rs.single_inv ha) hb⟩
theorem OpensE.page {P : Program} {t tI tL : TypeId} [oI : OpensE P tI Int] [oL : OpensE P tL (List PlaceD)] (h : jo P t [(0, tI, 1), (1, tI, 1), (2, tI, 1), (3, tI, 1), (4, tL, 1), (5, tL, 1)] 6 = true) : OpensE P t aw :=
 .struct (α := aw) h fun w cs hl hp => by
  obtain ⟨a, ha⟩ := hp (0, tI, 1) (by simp) Int inferInstance oI
  obtain ⟨b, hb⟩ := hp (1, tI, 1) (by simp) Int inferInstance oI
  obtain ⟨c, hc⟩ := hp (2, tI, 1) (by simp) Int inferInstance oI
  obtain ⟨d, hd⟩ := hp (3, tI, 1) (by simp) Int inferInstance oI
  obtain ⟨e, he⟩ := hp (4, tL, 1) (by simp) (List PlaceD) inferInstance oL
  obtain ⟨f, hf⟩ := hp (5, tL, 1) (by simp) (List PlaceD) inferInstance oL
  match cs, hl with
  | [u0, u1, u2, u3, u4, u5], _ => exact ⟨⟨a, b, c, d, e, f⟩, Rs.cons (Rs.single_inv ha) (Rs.cons (Rs.single_inv hb) (Rs.cons (Rs.single_inv hc) (Rs.cons (Rs.single_inv hd) (Rs.cons (Rs.single_inv he) hf))))⟩
theorem OpensE.proofs {P : Program} {t tT tR tP : TypeId} [oT : OpensE P tT (List az)] [oR : OpensE P tR (List bv)] [oP : OpensE P tP (List aw)] (h : jo P t [(0, tT, 1), (1, tR, 1), (2, tR, 1), (3, tP, 1)] 4 = true) : OpensE P t ah :=
 .struct (α := ah) h fun w cs hl hp => by
  obtain ⟨a, ha⟩ := hp (0, tT, 1) (by simp) (List az) inferInstance oT
  obtain ⟨b, hb⟩ := hp (1, tR, 1) (by simp) (List bv) inferInstance oR
  obtain ⟨c, hc⟩ := hp (2, tR, 1) (by simp) (List bv) inferInstance oR
  obtain ⟨d, hd⟩ := hp (3, tP, 1) (by simp) (List aw) inferInstance oP
  match cs, hl with
  | [u0, u1, u2, u3], _ => exact ⟨⟨a, b, c, d⟩, Rs.cons (Rs.single_inv ha) (Rs.cons (Rs.single_inv hb) (Rs.cons (Rs.single_inv hc) hd))⟩
end Go.AB
namespace Go.AB
open Go Go.RowKit Go.ChangeShapes Go.WideShapes
open Go.AB.Enc (cells)
open Go.PB (az ai PlaceD bv aw ah cx br)
def udj (P : Program) (t : TypeId) : Bool := match P.underlying t with | some (.func _ _ _) => true | _ => false
theorem yr {P : Program} {t : TypeId} (h : udj P t = true) : ∃ ps rs va, P.underlying t = some (.func ps rs va) := by
 unfold udj at h
 split at h
 ·rename_i ps rs va he; exact ⟨ps, rs, va, he⟩
 ·cases h
/-- Functions that lie in a variable's cells. -/
theorem uly {W : World} {b : Nat} {cs : List C} (hne : cs ≠ []) (hone : ∀ c ∈ cs, c.one = true) (us : Nat → Value) (hc : ∀ j, j < cs.length → W.cell? ⟨b, j, none⟩ = some (us j)) (hr : ∀ j c, cs[j]? = some c → R (jt W) W c (us j)) : R (jt W) W (.elem cs) (.pointer (some ⟨b, 0, none⟩)) := by
 have hl : 0 < cs.length := List.length_pos_iff.2 hne
 refine .elem hne hone (.inr ⟨b, 0, rfl, ?_, fun j hj => by rw [Nat.zero_add]; exact hc j hj⟩) hr
 have := uek (hc (cs.length - 1) (by omega))
 show 0 + cs.length ≤ p7 W b
 omega
theorem ukr {P : Program} {f : FuncId} {cs : List C} {v gv : Value} {gc : C} (hp : et 0 (.fact gv gc) P f cs (.v v)) {w : World} {args : List Value} (hK : R (jt w) w gc gv) (hr : Rs (jt w) w cs args) :
  Calls P f args.toArray w fun e w' => e = .returned v ∧ Below w.heap.size w w' :=
 uks (fun G nx hG => by
  intro E w' as' hrs hsg
  exact hp G nx hG (by obtain ⟨t, _⟩ := hsg.obj 0 _ hG; have := hsg.lt 0 _ t; rw [hsg.nx] at this; exact this) E w' as' hrs hsg) hK hr
/-- a cell of a function's type, as it reads -/
theorem qx {P : Program} {W : World} {t : TypeId} {ps rs : Array TypeId} {va : Bool} {v : Value} {b : UInt8} {r : List UInt8} {f0 : FuncId} (hu : P.underlying t = some (.func ps rs va)) (hv : IsFunc v) (hd : veil (funcToken P) t v = .held (b :: r))
  (hone : ((List.range P.funcs.size).filter fun f => (P.funcs[f]?).any (·.name.toUTF8.data.toList == b :: r)) = [f0]) : v = .func (.func f0) #[] #[] :=
 Go.func_of_trod (w := W) (base := 0) (sp := fun _ => true) (fuel := 1) (q := []) hu hone (by
  have := trod_func (enc := funcToken P) hu (W := W) (base := 0) (sp := fun _ => true) hv 0
  rw [hd] at this
  exact this)
end Go.AB
namespace Go.Proofs.YtbbdginipiljdaaGreatDoor
set_option maxRecDepth 10000
open Go.ChangeShapes Go.WideShapes Go.ChangeAt Go.RowKit Go.AB
open Go.AB.Enc (cells)
open Go.PB (az ai PlaceD bv aw ah cx br)
instance : OpensE Tryz.prog 67 bv := .reader (tI := 3) (by kernel_rfl)
instance : OpensE Tryz.prog 25 (List bv) := .slice (e := 67) (by kernel_rfl) (by decide)
instance : OpensE Tryz.prog 56 (List PlaceD) := .slice (e := 61) (by kernel_rfl) (by decide)
instance : OpensE Tryz.prog 58 aw := .page (tI := 3) (tL := 56) (by kernel_rfl)
instance : OpensE Tryz.prog 26 (List aw) := .slice (e := 58) (by kernel_rfl) (by decide)
theorem ube : jo Tryz.prog 28 [(0, 24, 1), (1, 25, 1), (2, 25, 1), (3, 26, 1)] 4 = true := by kernel_rfl
instance : OpensE Tryz.prog 28 ah := .proofs (tT := 24) (tR := 25) (tP := 26) ube
theorem z6 : sx Tryz.prog 5 .u8 = true := by kernel_rfl
theorem gSides : Tryz.prog.globalNamed "postil/proof.sides" = some 0 := by kernel_rfl
theorem tSides : (Tryz.prog.globals[0]?).map (·.type) = some 141 := by kernel_rfl
theorem uga : Tryz.prog.underlying 141 = some (.array 2 140) := by kernel_rfl
theorem umu : Tryz.prog.cellsOf 141 = 6 := by kernel_rfl
theorem uel : Tryz.prog.cellsOf 140 = 3 := by kernel_rfl
theorem uau : jo Tryz.prog 140 [(0, 136, 1), (1, 137, 1), (2, 138, 1)] 3 = true := by kernel_rfl
theorem udt : ∃ ps rs va, Tryz.prog.underlying 136 = some (.func ps rs va) := yr (by kernel_rfl)
theorem udv : ∃ ps rs va, Tryz.prog.underlying 137 = some (.func ps rs va) := yr (by kernel_rfl)
theorem udu : ∃ ps rs va, Tryz.prog.underlying 138 = some (.func ps rs va) := yr (by kernel_rfl)
theorem uaq {W : World} {m : Nat} {cs : List Value} {y : DataW (List UInt8) × List MemPlace} {d0 d1 d2 : DataW (List UInt8)} (hy : y.1 = .agg [d0, d1, d2])
  (h : DataW.trod (funcToken Tryz.prog) Tryz.prog W 0 (fun _ => true) true m 140 cs = some y) : ∃ v0 v1 v2, cs = [v0, v1, v2] ∧ (IsFunc v0 ∧ veil (funcToken Tryz.prog) 136 v0 = d0) ∧ (IsFunc v1 ∧ veil (funcToken Tryz.prog) 137 v1 = d1) ∧ (IsFunc v2 ∧ veil (funcToken Tryz.prog) 138 v2 = d2) := by
 obtain ⟨_, fs, he⟩ := t8 uau
 obtain ⟨xs, m', _, e1, hl, hlen, hf⟩ := DataW.trod_struct he h
 rw [uel] at hl
 have hfs : fs.toList.map (fun f => (f.offset, f.type, Tryz.prog.cellsOf f.type)) = [(0, 136, 1), (1, 137, 1), (2, 138, 1)] := by
  have := uau
  unfold jo at this
  rw [he] at this
  simp only [Bool.and_eq_true, beq_iff_eq] at this
  exact this.1
 obtain ⟨l⟩ := fs
 match l, hfs with
 | [f0, f1, f2], hfs =>
  simp only [List.map_cons, List.map_nil, List.cons.injEq, Prod.mk.injEq, and_true] at hfs
  obtain ⟨⟨a1, a2, a3⟩, ⟨b1, b2, b3⟩, ⟨c1, c2, c3⟩⟩ := hfs
  have h0 := hf 0 f0 rfl
  have h1 := hf 1 f1 rfl
  have h2 := hf 2 f2 rfl
  match cs, hl with
  | [u0, u1, u2], _ =>
   match xs, hlen with
   | [x0, x1, x2], _ =>
    subst e1
    simp only [List.map_cons, List.map_nil, DataW.agg.injEq, List.cons.injEq, and_true] at hy
    rw [a3, a1, a2] at h0
    rw [b3, b1, b2] at h1
    rw [c3, c1, c2] at h2
    obtain ⟨ps, rs, va, hu⟩ := udt
    obtain ⟨ps', rs', va', hu'⟩ := udv
    obtain ⟨ps2, rs2, va2, hu2⟩ := udu
    obtain ⟨v0, q0, q1, q2⟩ := Go.RowKit.func_of_trod hu h0
    obtain ⟨v1, q3, q4, q5⟩ := Go.RowKit.func_of_trod hu' h1
    obtain ⟨v2, q6, q7, q8⟩ := Go.RowKit.func_of_trod hu2 h2
    have e0 : u0 = v0 := by simpa using q0
    have e1 : u1 = v1 := by simpa using q3
    have e2 : u2 = v2 := by simpa using q6
    subst e0; subst e1; subst e2
    have hx0 : x0 = (veil (funcToken Tryz.prog) 136 u0, []) := by simpa using q2
    have hx1 : x1 = (veil (funcToken Tryz.prog) 137 u1, []) := by simpa using q5
    have hx2 : x2 = (veil (funcToken Tryz.prog) 138 u2, []) := by simpa using q8
    subst hx0; subst hx1; subst hx2
    obtain ⟨k0, k1, k2⟩ := hy
    exact ⟨u0, u1, u2, rfl, ⟨q1, k0⟩, ⟨q4, k1⟩, ⟨q7, k2⟩⟩
 | [], hfs => exact absurd hfs (by simp)
 | [_], hfs => exact absurd hfs (by simp)
 | [_, _], hfs => exact absurd hfs (by simp)
 | _ :: _ :: _ :: _ :: _, hfs => exact absurd hfs (by simp)
theorem ug2 {W : World} (h : funcsAt Tryz.prog W "postil/proof.sides" (.agg [.agg [.iface "func" (.lit (.string [112, 111, 115, 116, 105, 108, 47, 112, 114, 111, 111, 102, 46, 115, 105, 100, 101, 115, 36, 49])), .iface "func" (.lit (.string [112, 111, 115, 116, 105, 108, 47, 112, 114, 111, 111, 102, 46, 115, 105, 100, 101, 115, 36, 50])), .iface "func" (.lit (.string [112, 111, 115, 116, 105, 108, 47, 112, 114, 111, 111, 102, 46, 115, 105, 100, 101, 115, 36, 51]))], .agg [.iface "func" (.lit (.string [112, 111, 115, 116, 105, 108, 47, 112, 114, 111, 111, 102, 46, 115, 105, 100, 101, 115, 36, 52])), .iface "func" (.lit (.string [112, 111, 115, 116, 105, 108, 47, 112, 114, 111, 111, 102, 46, 115, 105, 100, 101, 115, 36, 53])), .iface "func" (.lit (.string [112, 111, 115, 116, 105, 108, 47, 112, 114, 111, 111, 102, 46, 115, 105, 100, 101, 115, 36, 54]))]])) : R (jt W) W (.elem sidL) (.pointer (some ⟨0, 0, none⟩)) := by
 obtain ⟨g, t, cs, fuel, p, hg, ht, hv, hd⟩ := h
 obtain rfl := Option.some.inj (gSides.symm.trans hg)
 obtain rfl := Option.some.inj (tSides.symm.trans ht)
 obtain ⟨xs, m, _, e1, hl, hn, hel⟩ := DataW.trod_array uga hd
 rw [umu] at hl
 rw [uel] at hel
 have hcell := fun i => World.var?_cell hg hv i
 obtain ⟨l⟩ := cs
 dsimp only at hl hel hcell
 match l, hl with
 | [u0, u1, u2, u3, u4, u5], _ =>
  match xs, hn with
  | [x0, x1], _ =>
   simp only [Prod.mk.injEq] at e1
   have e2 : (.agg [.agg [.held [112, 111, 115, 116, 105, 108, 47, 112, 114, 111, 111, 102, 46, 115, 105, 100, 101, 115, 36, 49], .held [112, 111, 115, 116, 105, 108, 47, 112, 114, 111, 111, 102, 46, 115, 105, 100, 101, 115, 36, 50], .held [112, 111, 115, 116, 105, 108, 47, 112, 114, 111, 111, 102, 46, 115, 105, 100, 101, 115, 36, 51]], .agg [.held [112, 111, 115, 116, 105, 108, 47, 112, 114, 111, 111, 102, 46, 115, 105, 100, 101, 115, 36, 52], .held [112, 111, 115, 116, 105, 108, 47, 112, 114, 111, 111, 102, 46, 115, 105, 100, 101, 115, 36, 53], .held [112, 111, 115, 116, 105, 108, 47, 112, 114, 111, 111, 102, 46, 115, 105, 100, 101, 115, 36, 54]]] : DataW (List UInt8)) = .agg [x0.1, x1.1] := e1.1
   simp only [DataW.agg.injEq, List.cons.injEq, and_true] at e2
   obtain ⟨a0, a1, a2, q0, ⟨a3, a4⟩, ⟨a5, a6⟩, ⟨a7, a8⟩⟩ := uaq e2.1.symm (hel 0 (by omega))
   obtain ⟨b0, b1, b2, q1, ⟨b3, b4⟩, ⟨b5, b6⟩, ⟨b7, b8⟩⟩ := uaq e2.2.symm (hel 1 (by omega))
   simp only [Nat.zero_mul, Nat.one_mul, List.drop_zero, List.drop_succ_cons, List.take_succ_cons, List.take_zero, List.cons.injEq, and_true] at q0 q1
   obtain ⟨rfl, rfl, rfl⟩ := q0
   obtain ⟨rfl, rfl, rfl⟩ := q1
   obtain ⟨ps, rs, va, hu⟩ := udt
   obtain ⟨ps', rs', va', hu'⟩ := udv
   obtain ⟨ps2, rs2, va2, hu2⟩ := udu
   obtain rfl := qx (W := W) (f0 := 157) hu a3 a4 (by kernel_rfl)
   obtain rfl := qx (W := W) (f0 := 158) hu' a5 a6 (by kernel_rfl)
   obtain rfl := qx (W := W) (f0 := 159) hu2 a7 a8 (by kernel_rfl)
   obtain rfl := qx (W := W) (f0 := 160) hu b3 b4 (by kernel_rfl)
   obtain rfl := qx (W := W) (f0 := 161) hu' b5 b6 (by kernel_rfl)
   obtain rfl := qx (W := W) (f0 := 162) hu2 b7 b8 (by kernel_rfl)
   let L : List Value := [.func (.func 157) #[] #[], .func (.func 158) #[] #[], .func (.func 159) #[] #[], .func (.func 160) #[] #[], .func (.func 161) #[] #[], .func (.func 162) #[] #[]]
   refine uly (by simp [sidL, ne]) (by intro c hc; simp only [sidL, ne, List.cons_append, List.nil_append, List.mem_cons, List.not_mem_nil, or_false] at hc; rcases hc with rfl | rfl | rfl | rfl | rfl | rfl <;> rfl) (fun j => L.getD j undef) (fun j hj => ?_) (fun j c hc => ?_)
   ·have := hcell j
    have hj' : j < 6 := hj
    rw [this]
    show (L.toArray)[j]? = _
    rw [List.getElem?_toArray, List.getD_eq_getElem?_getD, List.getElem?_eq_getElem (show j < L.length from hj')]
    rfl
   ·match j, hc with
    | 0, hc => cases hc; exact Rs.fn (vs := []) Rs.nil
    | 1, hc => cases hc; exact Rs.fn (vs := []) Rs.nil
    | 2, hc => cases hc; exact Rs.fn (vs := []) Rs.nil
    | 3, hc => cases hc; exact Rs.fn (vs := []) Rs.nil
    | 4, hc => cases hc; exact Rs.fn (vs := []) Rs.nil
    | 5, hc => cases hc; exact Rs.fn (vs := []) Rs.nil
abbrev sv : List (String × DataW Unit) := [("postil/proof.sides", Rows.laid_postil_proof_sides)]
set_option maxRecDepth 100000 in
/-- The door's own heap meets the condition. -/
theorem ul9 (os : Os) (args : Array Value) : laidMetH Tryz.prog sv ((World.doorLaid Tryz.prog 600 os).forCall (fun _ _ => 0) ⟨#[], args, []⟩).memory :=
 laidMetH_of_parts3 (fuel := 8) (laidMet_of_run' 8 (by kernel_rfl) (by kernel_rfl)) (by kernel_rfl) (by kernel_rfl)
theorem ug1 {W : World} (h : laidMetH Tryz.prog sv W) : R (jt W) W (.elem sidL) (.pointer (some ⟨0, 0, none⟩)) := ug2 (h.funcs (List.mem_cons_self ..))
end Go.Proofs.YtbbdginipiljdaaGreatDoor
namespace Go.AB
open Go Go.RowKit Go.ChangeShapes Go.WideShapes
section
variable {H : Type} {enc : TypeId × Value → H} {P : Program} {w : World} {base : Nat} {spare : Nat → Bool} {held : Bool}
end
end Go.AB
