/-
  What the walks through the program rest on: values, states, steps, calls (ReAsk, RjRests, QoRef, RkTotal, RgSets, QpRef, QqRef, RlChief, SaAlive, PkGuess, SbFacts, SdSums, SfKnown, SjWhy, OpenL, OpenW, OpenS, Trod).
-/
import Derived.Test.YtbbdginipiljdaaGreatDoorPartD
import Derived.Test.YtbbdginipiljdaaGreatDoorPartC
import Derived.Test.YtbbdginipiljdaaGreatDoorRows
import Derived.LaidMore
import Derived.RowKitVeiled
import Derived.Carry
namespace Go.AB
open Go Go.RowKit
open Go.AB.Enc (cells)
open Go.PB (ba ai PlaceD bh bj bi bw aw ah cw br dg dl)
def pgC (p : ah) (n : Int) : C := bif decide (eo p n = 0) then ju p else .v (.pointer none)
theorem uit (m : Nat) (p : ah) (n : Int) : C.low m (pgC p n) := by
 unfold pgC
 cases decide (eo p n = 0)
 ·exact .v
 exact ub6 m p
theorem ubk {p : ah} {n : Int} (h : eo p n ≠ 0) : pgC p n = .v (.pointer none) := by unfold pgC; rw [decide_eq_false h]; rfl
theorem r6 {p : ah} {n : Int} (h : eo p n = 0) : pgC p n = .elem [lst p.text, lst p.firsts, lst p.seconds, lst p.pages, lst (p.pages.map fun x => (dm p.text x : Int)), lst (p.pages.map (cr p.text)), lst (p.pages.map (dj p.text))] := by
 unfold pgC
 rw [decide_eq_true h, cond_true, uv (p6 h).1]
theorem ql {α β : Type} {l : List α} {k : Nat} {x : α} (f : α → β) (h : l[k]? = some x) : (l.map f)[k]? = some (f x) := by rw [List.getElem?_map, h]; rfl
end Go.AB
namespace Go.Proofs.YtbbdginipiljdaaGreatDoor
set_option maxRecDepth 10000
open Go Go.RowKit Go.AB
open Go.AB.Enc (cells)
open Go.PB (ba ai PlaceD bh bj bi bw aw ah cw br dg dl)
theorem uhm (m : Nat) (b : Bool) : ∀ c ∈ nh b, C.low m c := fun c hc => by
 simp only [List.mem_cons, List.not_mem_nil, or_false] at hc
 rcases hc with rfl | rfl | rfl <;> exact .fn (by simp)
theorem qh (n : Nat) (p : ah) (m : Int) : fa n ez Tryz.prog 42 [val p, .v (.int .i64 m)] (.tup [pgC p m, .v (.int .i64 (eo p m))]) := fun G nx hF hnx => by
 refine ij (G) (nx) Tryz.func42 rfl (.tup (co (uit _ _ _) (co .v dn))) zN (fun hlt => zH) ?_
 simp only [Tryz.ntmps42, List.length_cons, List.length_nil, Nat.reduceAdd, Nat.reduceSub]
 refine cc fun hlt => ?_
 dsimp only at hlt
 refine yS fun _ K1 => ?_
 refine yR ?_
 try dsimp only [St.put]
 refine yB rfl rfl rfl ?_
 refine yA rfl rfl ?_
 refine yA rfl rfl ?_
 refine yN ?_
 dsimp only [St.put]
 refine K1 _ ?_
 refine yS fun _ K2 => ?_
 refine yR ?_
 refine yE rfl rfl rfl ?_
 try dsimp only [St.put]
 refine af rfl (ed rfl rfl rfl (nm n p) zG (by dsimp only [St.put]; omega) ?_)
 refine yM rfl rfl ?_
 refine yX rfl rfl rfl rfl ?_
 refine yX rfl rfl rfl rfl ?_
 refine yA rfl rfl ?_
 refine yA rfl rfl ?_
 refine yN ?_
 dsimp only [St.put]
 refine K2 _ ?_
 refine yS fun _ K3 => ?_
 refine yS fun _ K4 => ?_
 refine yR ?_
 refine yM rfl rfl ?_
 refine aa rfl (fl rfl rfl rfl) ?_
 refine yN ?_
 dsimp only [St.put]
 refine K4 _ ?_
 refine av rfl (fun hc => ?_) (fun hc => ?_)
 ·have h0 : cv p ≠ 0 := jl hc
  have hE : eo p m = cv p := by simp [eo, h0]
  refine yS fun _ K5 => ?_
  refine yR ?_
  refine yM rfl rfl ?_
  refine yA rfl rfl ?_
  refine yA rfl rfl ?_
  refine yN ?_
  dsimp only [St.put]
  refine K5 _ ?_
  refine ax ?_
  refine j7 rfl (by constructor) (by constructor) zN zS ?_ ?_
  ·rw [ubk (by rw [hE]; exact h0)]
  rw [hE]
 have h0 : cv p = 0 := ie hc
 have hnp := (lg h0).1.np
 refine ay ?_
 refine K3 _ ?_
 refine yS fun _ K6 => ?_
 refine yS fun _ K7 => ?_
 refine yR ?_
 refine yF rfl rfl rfl rfl ?_
 refine yL rfl rfl rfl ?_
 refine aa rfl (bp rfl rfl (List.length_map _)) ?_
 refine aa rfl (gt rfl rfl rfl (by omega)) ?_
 refine yM rfl rfl ?_
 try dsimp only [St.put]
 refine af rfl (b9 rfl rfl rfl (by decide) (by decide) zR (by decide) ?_)
 try dsimp only [St.put]
 refine af rfl (bc rfl rfl rfl (mu _ _ [_]) ?_)
 refine aa rfl (d7 rfl rfl) ?_
 refine yN ?_
 dsimp only [St.put]
 refine K7 _ ?_
 refine av rfl (fun hc => ?_) (fun hc => ?_)
 ·have h1 : inB m 0 ((p.pages.length : Int) - 1) = false := by rw [gn] at hc; simpa using hc
  have hE : eo p m = 2 := by simp [eo, h0, h1]
  refine yS fun _ K8 => ?_
  refine yR ?_
  refine yA rfl rfl ?_
  refine yA rfl rfl ?_
  refine yN ?_
  dsimp only [St.put]
  refine K8 _ ?_
  refine ax ?_
  refine j7 rfl (by constructor) (by constructor) zN zS ?_ ?_
  ·rw [ubk (by rw [hE]; decide)]
  rw [hE]
 have h1 : inB m 0 ((p.pages.length : Int) - 1) = true := by rw [gn] at hc; simpa using hc
 have hE : eo p m = 0 := by simp [eo, h0, h1]
 refine ay ?_
 refine K6 _ ?_
 refine yS fun _ K9 => ?_
 refine yR ?_
 refine yM rfl rfl ?_
 refine yA rfl rfl ?_
 refine yA rfl rfl ?_
 refine yN ?_
 dsimp only [St.put]
 refine K9 _ ?_
 refine ax ?_
 refine j7 rfl (by constructor) (by constructor) zN zS ?_ ?_
 ·unfold pgC; rw [decide_eq_true hE]; rfl
 rw [hE]
theorem ubp (n : Nat) (p : ah) (m : Int) : fa n ez Tryz.prog 62 [val p, .v (.int .i64 m)] (.tup [.v (.int .i64 (ne p m)), .v (.int .i64 (eo p m))]) := fun G nx hF hnx => by
 refine ij (G) (nx) Tryz.func62 rfl (.tup (co .v (co .v dn))) zN (fun hlt => zH) ?_
 simp only [Tryz.ntmps62, List.length_cons, List.length_nil, Nat.reduceAdd, Nat.reduceSub]
 refine cc fun hlt => ?_
 dsimp only at hlt
 refine yS fun _ K1 => ?_
 refine yR ?_
 try dsimp only [St.put]
 refine yB rfl rfl rfl ?_
 refine yA rfl rfl ?_
 refine yA rfl rfl ?_
 refine yN ?_
 dsimp only [St.put]
 refine K1 _ ?_
 refine yS fun _ K2 => ?_
 refine yR ?_
 refine yE rfl rfl rfl ?_
 refine yM rfl rfl ?_
 try dsimp only [St.put]
 refine af rfl (ed rfl rfl rfl (qh n p m) zG (by dsimp only [St.put]; omega) ?_)
 refine yM rfl rfl ?_
 refine yX rfl rfl rfl rfl ?_
 refine yX rfl rfl rfl rfl ?_
 refine yA rfl rfl ?_
 refine yA rfl rfl ?_
 refine yN ?_
 dsimp only [St.put]
 refine K2 _ ?_
 refine yS fun _ K3 => ?_
 refine yS fun _ K4 => ?_
 refine yR ?_
 refine yM rfl rfl ?_
 refine aa rfl (fl rfl rfl rfl) ?_
 refine yN ?_
 dsimp only [St.put]
 refine K4 _ ?_
 refine av rfl (fun hc => ?_) (fun hc => ?_)
 ·have h0 : eo p m ≠ 0 := jl hc
  have hV : ne p m = 0 := by unfold ne; rw [li h0]
  refine yS fun _ K5 => ?_
  refine yR ?_
  refine yM rfl rfl ?_
  refine yA rfl rfl ?_
  refine yA rfl rfl ?_
  refine yN ?_
  dsimp only [St.put]
  refine K5 _ ?_
  refine ax ?_
  refine j7 rfl (by constructor) (by constructor) zN zS ?_ ?_
  ·exact vi hV.symm
  rfl
 have h0 : eo p m = 0 := ie hc
 obtain ⟨hc0, j, x, rfl, hx, hpo⟩ := p6 h0
 have hw := ql (fun x => (dm p.text x : Int)) hx
 have hV : ne p (j : Int) = (dm p.text x : Int) := by unfold ne; rw [h0, hpo]; rfl
 rw [r6 h0]
 refine ay ?_
 refine K3 _ ?_
 refine yS fun _ K6 => ?_
 refine yR ?_
 refine yM rfl rfl ?_
 refine aa rfl (k7 rfl rfl) ?_
 refine yF rfl rfl rfl rfl ?_
 refine yL rfl rfl rfl ?_
 refine yM rfl rfl ?_
 refine aa rfl (bx rfl rfl rfl rfl (bv (by assumption)) (Enc.len _)) ?_
 refine yL rfl rfl rfl ?_
 refine yA rfl rfl ?_
 refine yA rfl rfl ?_
 refine yN ?_
 dsimp only [St.put]
 refine K6 _ ?_
 refine ax ?_
 refine j7 rfl (by constructor) (by constructor) zN zS ?_ ?_
 ·exact vi hV.symm
 exact vi h0.symm
theorem ubu (n : Nat) (p : ah) (m : Int) : fa n ez Tryz.prog 64 [val p, .v (.int .i64 m)] (.tup [lst (o5 p m), .v (.int .i64 (eo p m))]) := fun G nx hF hnx => by
 refine ij (G) (nx) Tryz.func64 rfl (.tup (co (ca _ _) (co .v dn))) zN (fun hlt => zH) ?_
 simp only [Tryz.ntmps64, List.length_cons, List.length_nil, Nat.reduceAdd, Nat.reduceSub]
 refine cc fun hlt => ?_
 dsimp only at hlt
 refine yS fun _ K1 => ?_
 refine yR ?_
 try dsimp only [St.put]
 refine yB rfl rfl rfl ?_
 refine yA rfl rfl ?_
 refine yA rfl rfl ?_
 refine yN ?_
 dsimp only [St.put]
 refine K1 _ ?_
 refine yS fun _ K2 => ?_
 refine yR ?_
 refine yE rfl rfl rfl ?_
 refine yM rfl rfl ?_
 try dsimp only [St.put]
 refine af rfl (ed rfl rfl rfl (qh n p m) zG (by dsimp only [St.put]; omega) ?_)
 refine yM rfl rfl ?_
 refine yX rfl rfl rfl rfl ?_
 refine yX rfl rfl rfl rfl ?_
 refine yA rfl rfl ?_
 refine yA rfl rfl ?_
 refine yN ?_
 dsimp only [St.put]
 refine K2 _ ?_
 refine yS fun _ K3 => ?_
 refine yS fun _ K4 => ?_
 refine yR ?_
 refine yM rfl rfl ?_
 refine aa rfl (fl rfl rfl rfl) ?_
 refine yN ?_
 dsimp only [St.put]
 refine K4 _ ?_
 refine av rfl (fun hc => ?_) (fun hc => ?_)
 ·have h0 : eo p m ≠ 0 := jl hc
  have hV : o5 p m = [] := by unfold o5; rw [li h0]
  refine yS fun _ K5 => ?_
  refine yR ?_
  refine yM rfl rfl ?_
  refine yA rfl rfl ?_
  refine yA rfl rfl ?_
  refine yN ?_
  dsimp only [St.put]
  refine K5 _ ?_
  refine ax ?_
  refine ia rfl (ef (by constructor)) (ef (by constructor)) zN zS ?_ ?_
  ·rw [hV]; exact zW
  exact zW
 have h0 : eo p m = 0 := ie hc
 obtain ⟨hc0, j, x, rfl, hx, hpo⟩ := p6 h0
 have hw := ql (cr p.text) hx
 have hV : o5 p (j : Int) = cr p.text x := by unfold o5; rw [h0, hpo]; rfl
 rw [r6 h0]
 refine ay ?_
 refine K3 _ ?_
 refine yS fun _ K6 => ?_
 refine yR ?_
 refine yM rfl rfl ?_
 refine aa rfl (k7 rfl rfl) ?_
 refine yF rfl rfl rfl rfl ?_
 refine yL rfl rfl rfl ?_
 refine yM rfl rfl ?_
 refine aa rfl (bx rfl rfl rfl rfl (bv (by assumption)) (Enc.len _)) ?_
 refine yL rfl rfl rfl ?_
 refine yA rfl rfl ?_
 refine yA rfl rfl ?_
 refine yN ?_
 dsimp only [St.put]
 refine K6 _ ?_
 refine ax ?_
 refine ia rfl (ef (by constructor)) (ef (by constructor)) zN zS ?_ ?_
 ·rw [hV]; exact zW
 rw [h0]; exact zW
theorem ujb (n : Nat) (p : ah) (m : Int) : fa n ez Tryz.prog 65 [val p, .v (.int .i64 m)] (.tup [lst (qz p m), .v (.int .i64 (eo p m))]) := fun G nx hF hnx => by
 refine ij (G) (nx) Tryz.func65 rfl (.tup (co (ca _ _) (co .v dn))) zN (fun hlt => zH) ?_
 simp only [Tryz.ntmps65, List.length_cons, List.length_nil, Nat.reduceAdd, Nat.reduceSub]
 refine cc fun hlt => ?_
 dsimp only at hlt
 refine yS fun _ K1 => ?_
 refine yR ?_
 try dsimp only [St.put]
 refine yB rfl rfl rfl ?_
 refine yA rfl rfl ?_
 refine yA rfl rfl ?_
 refine yN ?_
 dsimp only [St.put]
 refine K1 _ ?_
 refine yS fun _ K2 => ?_
 refine yR ?_
 refine yE rfl rfl rfl ?_
 refine yM rfl rfl ?_
 try dsimp only [St.put]
 refine af rfl (ed rfl rfl rfl (qh n p m) zG (by dsimp only [St.put]; omega) ?_)
 refine yM rfl rfl ?_
 refine yX rfl rfl rfl rfl ?_
 refine yX rfl rfl rfl rfl ?_
 refine yA rfl rfl ?_
 refine yA rfl rfl ?_
 refine yN ?_
 dsimp only [St.put]
 refine K2 _ ?_
 refine yS fun _ K3 => ?_
 refine yS fun _ K4 => ?_
 refine yR ?_
 refine yM rfl rfl ?_
 refine aa rfl (fl rfl rfl rfl) ?_
 refine yN ?_
 dsimp only [St.put]
 refine K4 _ ?_
 refine av rfl (fun hc => ?_) (fun hc => ?_)
 ·have h0 : eo p m ≠ 0 := jl hc
  have hV : qz p m = [] := by unfold qz; rw [li h0]
  refine yS fun _ K5 => ?_
  refine yR ?_
  refine yM rfl rfl ?_
  refine yA rfl rfl ?_
  refine yA rfl rfl ?_
  refine yN ?_
  dsimp only [St.put]
  refine K5 _ ?_
  refine ax ?_
  refine ia rfl (ef (by constructor)) (ef (by constructor)) zN zS ?_ ?_
  ·rw [hV]; exact zW
  exact zW
 have h0 : eo p m = 0 := ie hc
 obtain ⟨hc0, j, x, rfl, hx, hpo⟩ := p6 h0
 have hw := ql (dj p.text) hx
 have hV : qz p (j : Int) = dj p.text x := by unfold qz; rw [h0, hpo]; rfl
 rw [r6 h0]
 refine ay ?_
 refine K3 _ ?_
 refine yS fun _ K6 => ?_
 refine yR ?_
 refine yM rfl rfl ?_
 refine aa rfl (k7 rfl rfl) ?_
 refine yF rfl rfl rfl rfl ?_
 refine yL rfl rfl rfl ?_
 refine yM rfl rfl ?_
 refine aa rfl (bx rfl rfl rfl rfl (bv (by assumption)) (Enc.len _)) ?_
 refine yL rfl rfl rfl ?_
 refine yA rfl rfl ?_
 refine yA rfl rfl ?_
 refine yN ?_
 dsimp only [St.put]
 refine K6 _ ?_
 refine ax ?_
 refine ia rfl (ef (by constructor)) (ef (by constructor)) zN zS ?_ ?_
 ·rw [hV]; exact zW
 rw [h0]; exact zW
theorem ubv (n : Nat) (p : ah) (b : Bool) (m : Int) : fa n ez Tryz.prog 29 [val p, .v (.bool b), .v (.int .i64 m)] (.tup [.v (.int .i64 (mh p b m)), .v (.int .i64 (jz p b m))]) := fun G nx hF hnx => by
 refine ij (G) (nx) Tryz.func29 rfl (.tup (co .v (co .v dn))) zN (fun hlt => zH) ?_
 simp only [Tryz.ntmps29, List.length_cons, List.length_nil, Nat.reduceAdd, Nat.reduceSub]
 refine cc fun hlt => ?_
 dsimp only at hlt
 refine yS fun _ K1 => ?_
 refine yR ?_
 try dsimp only [St.put]
 refine yB rfl rfl rfl ?_
 refine yA rfl rfl ?_
 refine yA rfl rfl ?_
 refine yN ?_
 dsimp only [St.put]
 refine K1 _ ?_
 refine yS fun _ K2 => ?_
 refine yR ?_
 refine yE rfl rfl rfl ?_
 try dsimp only [St.put]
 refine af rfl (ed rfl rfl rfl (nm n p) zG (by dsimp only [St.put]; omega) ?_)
 refine yM rfl rfl ?_
 refine yX rfl rfl rfl rfl ?_
 refine yX rfl rfl rfl rfl ?_
 refine yA rfl rfl ?_
 refine yA rfl rfl ?_
 refine yN ?_
 dsimp only [St.put]
 refine K2 _ ?_
 refine yS fun _ K3 => ?_
 refine yS fun _ K4 => ?_
 refine yR ?_
 refine yM rfl rfl ?_
 refine aa rfl (fl rfl rfl rfl) ?_
 refine yN ?_
 dsimp only [St.put]
 refine K4 _ ?_
 refine av rfl (fun hc => ?_) (fun hc => ?_)
 ·have h0 : cv p ≠ 0 := jl hc
  have hE : jz p b m = cv p := by simp [jz, h0]
  refine yS fun _ K5 => ?_
  refine yR ?_
  refine yM rfl rfl ?_
  refine yA rfl rfl ?_
  refine yA rfl rfl ?_
  refine yN ?_
  dsimp only [St.put]
  refine K5 _ ?_
  refine ax ?_
  refine j7 rfl (by constructor) (by constructor) zN zS ?_ ?_
  ·exact vi (by simp [mh, atE, hE, h0])
  exact vi hE.symm
 have h0 : cv p = 0 := ie hc
 obtain ⟨hok, _⟩ := lg h0
 have hn1 := hok.nf
 have hn2 := hok.ns
 have hsl : (dv p b).length ≤ 3 := by
  cases b
  ·exact hn1
  exact hn2
 rw [uv h0]
 refine ay ?_
 refine K3 _ ?_
 refine yS fun _ K6 => ?_
 refine yR ?_
 try dsimp only [St.put]
 refine aa rfl (uch (j := n) (k := 0) (m := 2) (sz := 3) rfl rfl zG rfl rfl (by decide) rfl) ?_
 try dsimp only [St.put]
 refine ck rfl (c := .agg (nh false)) (j0 (cs := sidL) rfl rfl (show 3 ≤ 6 by decide)) ?_
 try dsimp only [St.put]
 refine af rfl (dx rfl ?_)
 try dsimp only [St.put]
 refine af rfl (dh rfl rfl rfl zG rfl rfl (by rfl) ?_)
 refine yN ?_
 dsimp only [St.put]
 refine K6 _ ?_
 refine ct 13 ?_
 refine zQ ?_
 refine kr (X := Nat) (fun wv => True) (fun wv => []) (fun wv G' => ak G nx (.box wv (nh b))) rfl ?_ ?_ ?_ ?_
 ·rintro wv hI
  exact zL
 ·rintro wv hI
  exact (by (repeat' (refine la ?_ (by (try dsimp only); omega) ?_)); all_goals (first | exact ld zS | (repeat' (first | exact trivial | refine ⟨?_, ?_⟩ | exact .v | exact .any | refine .elem ?_ | exact ca _ _ | exact fq _ _ | exact el _ _ | exact fy _ (by (try dsimp only); omega) | exact .box (by (try dsimp only); omega) | exact fk | exact dn | exact uhm _ _ | refine ga ?_ ?_ | exact .arr (by (try dsimp only); omega) | exact .own (by (try dsimp only); omega) | exact .map (by (try dsimp only); omega) | exact fe _ | refine co ?_ ?_ | exact ca _ _))))
 ·refine yS fun _ K8 => ?_
  refine yR ?_
  refine yM rfl rfl ?_
  refine yN ?_
  dsimp only [St.put]
  refine K8 _ ?_
  refine av rfl (fun hc => ?_) (fun hc => ?_)
  ·obtain rfl : b = true := hc
   have hyes : True := trivial
   refine yR ?_
   try dsimp only [St.put]
   refine aa rfl (uch (j := n) (k := 1) (m := 2) (sz := 3) rfl rfl zG rfl rfl (by decide) rfl) ?_
   try dsimp only [St.put]
   refine ck rfl (e8 rfl rfl rfl) ?_
   try dsimp only [St.put]
   refine af rfl (dh rfl rfl rfl zG rfl rfl (by rfl) ?_)
   refine yN ?_
   dsimp only [St.put]
   first
   | exact ⟨1 + 1, hyes, ⟨⟨rfl, rfl⟩, zF, zB, zN, zX⟩⟩
   | exact ⟨1, hno, ⟨⟨rfl, rfl⟩, zF, zB, zN, zX⟩⟩
  obtain rfl : b = false := hc
  have hno : True := trivial
  refine ay ?_
  first
  | exact ⟨1 + 1, hyes, ⟨⟨rfl, rfl⟩, zF, zB, zN, zX⟩⟩
  | exact ⟨1, hno, ⟨⟨rfl, rfl⟩, zF, zB, zN, zX⟩⟩
 rintro wv hI
 dsimp only at hI ⊢
 refine yS fun _ K9 => ?_
 refine yS fun _ K10 => ?_
 refine yR ?_
 refine aa rfl (bk rfl rfl) ?_
 try dsimp only [St.put]
 refine ck rfl (fu rfl rfl zG trivial (by first | rfl | assumption)) ?_
 refine yE rfl rfl rfl ?_
 try dsimp only [St.put]
 refine af rfl (bc rfl rfl rfl (ou b p) ?_)
 refine aa rfl (bp rfl rfl (List.length_map _)) ?_
 refine aa rfl (gt rfl rfl rfl (by omega)) ?_
 refine yM rfl rfl ?_
 try dsimp only [St.put]
 refine af rfl (b9 rfl rfl rfl (by decide) (by decide) zR (by decide) ?_)
 try dsimp only [St.put]
 refine af rfl (bc rfl rfl rfl (mu _ _ [_]) ?_)
 refine aa rfl (d7 rfl rfl) ?_
 refine yN ?_
 dsimp only [St.put]
 refine K10 _ ?_
 refine av rfl (fun hc => ?_) (fun hc => ?_)
 ·have h1 : inB m 0 (((dv p b).length : Int) - 1) = false := by rw [gn] at hc; simpa using hc
  have hE : jz p b m = 2 := by simp [jz, h0, h1]
  refine yS fun _ K11 => ?_
  refine yR ?_
  refine yA rfl rfl ?_
  refine yA rfl rfl ?_
  refine yN ?_
  dsimp only [St.put]
  refine K11 _ ?_
  refine ax ?_
  refine j7 rfl (by constructor) (by constructor) zN zS ?_ ?_
  ·exact vi (by simp [mh, atE, hE])
  exact vi hE.symm
 have h1 : inB m 0 (((dv p b).length : Int) - 1) = true := by rw [gn] at hc; simpa using hc
 have hE : jz p b m = 0 := by simp [jz, h0, h1]
 obtain ⟨j, hj⟩ : ∃ j : Nat, m = (j : Int) := ⟨m.toNat, by have := inB_true.1 h1; omega⟩
 subst hj
 have hjl : j < (dv p b).length := by have := inB_true.1 h1; omega
 have hV : mh p b (j : Int) = da p b j := by simp [mh, atE, hE]
 refine ay ?_
 refine K9 _ ?_
 refine yS fun _ K12 => ?_
 refine yR ?_
 refine yM rfl rfl ?_
 try dsimp only [St.put]
 refine ck rfl (i1 rfl rfl zG trivial (by rfl)) ?_
 refine yM rfl rfl ?_
 try dsimp only [St.put]
 refine af rfl (bc rfl rfl rfl (ubm p b j hok hjl) ?_)
 refine yM rfl rfl ?_
 refine yX rfl rfl rfl rfl ?_
 refine yX rfl rfl rfl rfl ?_
 refine yA rfl rfl ?_
 refine yA rfl rfl ?_
 refine yN ?_
 dsimp only [St.put]
 refine K12 _ ?_
 refine yS fun _ K13 => ?_
 refine yR ?_
 refine yM rfl rfl ?_
 refine yA rfl rfl ?_
 refine yA rfl rfl ?_
 refine yN ?_
 dsimp only [St.put]
 refine K13 _ ?_
 refine ax ?_
 refine j7 rfl (by constructor) (by constructor) zN zS ?_ ?_
 ·exact vi hV.symm
 exact vi hE.symm
theorem ui8 (n : Nat) (p : ah) (m : Int) : fa n ez Tryz.prog 66 [val p, .v (.int .i64 m)] (.tup [val (n1 p m), .v (.int .i64 (m4 p m))]) := fun G nx hF hnx => by
 refine ij (G) (nx) Tryz.func66 rfl (.tup (co (el _ _) (co .v dn))) zN (fun hlt => zH) ?_
 simp only [Tryz.ntmps66, List.length_cons, List.length_nil, Nat.reduceAdd, Nat.reduceSub]
 refine cc fun hlt => ?_
 dsimp only at hlt
 refine yS fun _ K1 => ?_
 refine yR ?_
 try dsimp only [St.put]
 refine yB rfl rfl rfl ?_
 try dsimp only [St.put]
 refine af rfl (dx rfl ?_)
 refine yA rfl rfl ?_
 refine yN ?_
 dsimp only [St.put]
 refine K1 _ ?_
 refine yS fun _ K2 => ?_
 refine yR ?_
 refine yE rfl rfl rfl ?_
 refine yM rfl rfl ?_
 try dsimp only [St.put]
 refine af rfl (ed rfl rfl rfl (qh n p m) zG (by dsimp only [St.put]; omega) ?_)
 refine yM rfl rfl ?_
 refine yX rfl rfl rfl rfl ?_
 refine yX rfl rfl rfl rfl ?_
 refine yA rfl rfl ?_
 refine yA rfl rfl ?_
 refine yN ?_
 dsimp only [St.put]
 refine K2 _ ?_
 refine yS fun _ K3 => ?_
 refine yS fun _ K4 => ?_
 refine yR ?_
 refine yM rfl rfl ?_
 refine aa rfl (fl rfl rfl rfl) ?_
 refine yN ?_
 dsimp only [St.put]
 refine K4 _ ?_
 refine av rfl (fun hc => ?_) (fun hc => ?_)
 ·have h0 : eo p m ≠ 0 := jl hc
  have hE : m4 p m = eo p m := by unfold m4; rw [decide_eq_false h0]; rfl
  have hV : n1 p m = ⟨0, 0⟩ := by unfold n1; rw [hE, li h0]
  refine yS fun _ K5 => ?_
  refine yR ?_
  refine aa rfl (ip rfl rfl) ?_
  refine yM rfl rfl ?_
  try dsimp only [St.put]
  refine af rfl (dh rfl rfl rfl zG rfl rfl (by rfl) ?_)
  refine yA rfl rfl ?_
  refine yN ?_
  dsimp only [St.put]
  refine K5 _ ?_
  refine ax ?_
  refine ia rfl (j1 rfl zG (by rfl) zC rfl) (ef (by constructor)) zN zS ?_ ?_
  ·rw [hV]; exact zW
  rw [hE]; exact zW
 have h0 : eo p m = 0 := ie hc
 obtain ⟨hc0, j, x, rfl, hx, hpo⟩ := p6 h0
 obtain ⟨hok, _⟩ := lg hc0
 have hp := pageB_true.1 (hok.page j x hx)
 have hal := nd hok.text
 have hfl := o6 hp.found
 have hwl := o6 hp.well
 have hbl := uev p.text x
 have hw := ql (dj p.text) hx
 rw [r6 h0]
 refine ay ?_
 refine K3 _ ?_
 refine yS fun _ K6 => ?_
 refine yR ?_
 refine yM rfl rfl ?_
 refine aa rfl (k7 rfl rfl) ?_
 refine yF rfl rfl rfl rfl ?_
 refine yL rfl rfl rfl ?_
 refine yM rfl rfl ?_
 refine aa rfl (bx rfl rfl rfl rfl (bv (by assumption)) (Enc.len _)) ?_
 refine yL rfl rfl rfl ?_
 refine aa rfl (bp rfl rfl (List.length_map _)) ?_
 refine yA rfl rfl ?_
 refine yN ?_
 dsimp only [St.put]
 refine K6 _ ?_
 refine yS fun _ K7 => ?_
 refine yS fun _ K8 => ?_
 refine yR ?_
 refine yM rfl rfl ?_
 refine aa rfl (fm rfl rfl rfl) ?_
 refine yN ?_
 dsimp only [St.put]
 refine K8 _ ?_
 refine av rfl (fun hc => ?_) (fun hc => ?_)
 ·have hk : (dj p.text x).length = 0 := by have := of_decide_eq_true hc; omega
  have hE : m4 p (j : Int) = 6 := by unfold m4; rw [h0, hpo, decide_eq_true hk]; rfl
  have hV : n1 p (j : Int) = ⟨0, 0⟩ := by unfold n1; rw [hE, li (by decide)]
  refine yS fun _ K9 => ?_
  refine yR ?_
  refine aa rfl (ip rfl rfl) ?_
  try dsimp only [St.put]
  refine af rfl (dh rfl rfl rfl zG rfl rfl (by rfl) ?_)
  refine yA rfl rfl ?_
  refine yN ?_
  dsimp only [St.put]
  refine K9 _ ?_
  refine ax ?_
  refine ia rfl (j1 rfl zG (by rfl) zC rfl) (ef (by constructor)) zN zS ?_ ?_
  ·rw [hV]; exact zW
  rw [hE]; exact zW
 have hk : ¬ (dj p.text x).length = 0 := by have := of_decide_eq_false hc; omega
 obtain ⟨hE, hV⟩ := ulj h0 hpo rfl hk
 have hfw : x.found.length * x.well.length ≤ 600 * 600 := Nat.mul_le_mul (by omega) (by omega)
 have hfc := Int.natCast_mul x.found.length x.well.length
 have hjl := (List.getElem?_eq_some_iff.1 hx).1
 refine ay ?_
 refine K7 _ ?_
 refine yS fun _ K10 => ?_
 refine g7 [(0, none), (1, none), (2, none), (3, none), (4, none), (5, none), (6, none), (7, none), (8, none), (9, none), (10, none), (11, none), (12, none), (13, none), (14, none), (15, none)] (fun i => [].contains i) (fun i => [].contains i) (fun i => [0, 2, 3, 4, 6, 7, 9, 10, 11, 13, 14, 15].contains i) [] (by kernel_rfl) (by kernel_rfl) ?_
 refine ae rfl rfl rfl rfl (cx rfl rfl rfl) ?_
 try dsimp only [St.put]
 refine bd rfl rfl rfl rfl (cm rfl rfl) ?_
 refine xM rfl rfl rfl rfl rfl ?_
 try dsimp only [St.put]
 refine ae rfl rfl rfl rfl (bx rfl rfl rfl rfl (bv (by assumption)) (Enc.len _)) ?_
 refine ae rfl rfl rfl rfl (cx rfl rfl rfl) ?_
 try dsimp only [St.put]
 refine bd rfl rfl rfl rfl (cm rfl rfl) ?_
 refine ae rfl rfl rfl rfl (bp rfl rfl (List.length_map _)) ?_
 refine ae rfl rfl rfl rfl (cx rfl rfl rfl) ?_
 try dsimp only [St.put]
 refine bd rfl rfl rfl rfl (cm rfl rfl) ?_
 refine xM rfl rfl rfl rfl rfl ?_
 try dsimp only [St.put]
 refine ae rfl rfl rfl rfl (bx rfl rfl rfl rfl (bv (by assumption)) (Enc.len _)) ?_
 refine ae rfl rfl rfl rfl (cx rfl rfl rfl) ?_
 try dsimp only [St.put]
 refine bd rfl rfl rfl rfl (cm rfl rfl) ?_
 refine ae rfl rfl rfl rfl (bp rfl rfl (List.length_map _)) ?_
 refine ae rfl rfl rfl rfl (x9 rfl rfl rfl (by omega)) ?_
 refine ae rfl rfl rfl rfl (fp rfl (by constructor)) ?_
 refine az ?_
 dsimp only [St.put]
 rw [show (x.found.length : Int) * (x.well.length : Int) = ((x.found.length * x.well.length : Nat) : Int) from hfc.symm]
 obtain ⟨M, hM⟩ : ∃ M, x.found.length * x.well.length = M := ⟨_, rfl⟩
 obtain ⟨K, hK⟩ : ∃ K, (dj p.text x).length = K := ⟨_, rfl⟩
 have hV2 : n1 p (j : Int) = ⟨(M : Int) / (K : Int), ((M : Int) + (K : Int) - 1) / (K : Int)⟩ := by
  rw [hV]
  unfold yo
  rw [hM, hK, Int.natCast_ediv, Int.natCast_ediv, show ((M + K - 1 : Nat) : Int) = (M : Int) + (K : Int) - 1 by omega]
 rw [hM] at hfw
 rw [hK] at hk hbl
 rw [hM, hK]
 refine K10 _ ?_
 refine yS fun _ K11 => ?_
 refine g7 [(0, none), (1, none), (2, none), (3, none), (4, none), (5, none), (6, none), (7, none), (8, none), (9, none), (10, none), (11, none)] (fun i => [10].contains i) (fun i => [10].contains i) (fun i => [0, 1, 2, 3, 4, 5, 6, 7, 8, 9, 11].contains i) [] (by kernel_rfl) (by kernel_rfl) ?_
 refine xM rfl rfl rfl rfl rfl ?_
 refine xM rfl rfl rfl rfl rfl ?_
 refine ae rfl rfl rfl rfl (x8 rfl rfl rfl (by omega) (by omega)) ?_
 refine xM rfl rfl rfl rfl rfl ?_
 refine xM rfl rfl rfl rfl rfl ?_
 refine ae rfl rfl rfl rfl (bz rfl rfl rfl (by omega)) ?_
 refine ae rfl rfl rfl rfl (gt rfl rfl rfl (by omega)) ?_
 refine xM rfl rfl rfl rfl rfl ?_
 refine ae rfl rfl rfl rfl (x8 rfl rfl rfl (by omega) (by omega)) ?_
 refine ae rfl rfl rfl rfl (ip rfl rfl) ?_
 refine jo ?_
 try dsimp only [St.put]
 refine g8 rfl rfl rfl rfl (dh rfl rfl rfl zG rfl rfl (by rfl) ?_)
 refine c8 rfl rfl rfl rfl (fp rfl (by constructor)) ?_
 refine ji ?_
 dsimp only [St.put]
 refine K11 _ ?_
 refine ax ?_
 refine ia rfl (j1 rfl zG (by rfl) zC rfl) (ef (by constructor)) zN zS ?_ ?_
 ·rw [hV2]; exact zW
 rw [hE]; exact zW
end Go.Proofs.YtbbdginipiljdaaGreatDoor
namespace Go.AB
open Go Go.RowKit
open Go.AB.Enc (cells)
open Go.PB (ba ai PlaceD bh bj bi bw aw ah cw br dg dl)
/-- who has read a page, of some sides -/
def ow (p : ah) (x : aw) : Nat → List Int
 | 0 => []
 | k + 1 => ow p x k ++ bif decide (0 ≤ eh (decide (k = 1)) x) then [(sdN p k : Int) + eh (decide (k = 1)) x] else []
theorem uik (p : ah) (x : aw) : ow p x 2 = dt p x := by
 show ([] ++ bif decide (0 ≤ x.fst) then [((0 : Nat) : Int) + x.fst] else []) ++ (bif decide (0 ≤ x.snd) then [(p.firsts.length : Int) + x.snd] else []) = dt p x
 rw [List.nil_append, show ((0 : Nat) : Int) + x.fst = x.fst by omega]
 rfl
theorem uba (p : ah) (x : aw) : ∀ k, (ow p x k).length ≤ k
 | 0 => Nat.le_refl _
 | k + 1 => by
  have := uba p x k
  simp only [ow, List.length_append]
  cases decide (0 ≤ eh (decide (k = 1)) x)
  ·rw [cond_false]; simp; omega
  rw [cond_true]; simp; omega
theorem ukd {α β : Type} {l : List α} {j : Nat} {x : α} (f : α → β) (h : l[j]? = some x) : (l.take (j + 1)).map f = (l.take j).map f ++ [f x] := by rw [List.take_add_one, h, Option.toList_some, List.map_append]; rfl
theorem uks {p : ah} : (!(bn (bt p) (c4 p)).any fun n => decide (n < 0)) = i6 p := by
 rw [Bool.eq_iff_iff, Bool.not_eq_true', ← Bool.not_eq_true, List.any_eq_true]
 unfold i6 bn
 rw [List.all_eq_true]
 constructor
 ·intro h i hi
  refine decide_eq_true ?_
  rcases Int.lt_or_le (c4 p i) 0 with q | q
  ·exact absurd ⟨_, List.mem_map.2 ⟨i, hi, rfl⟩, decide_eq_true q⟩ h
  exact q
 rintro h ⟨z, hz, hl⟩
 obtain ⟨i, hi, rfl⟩ := List.mem_map.1 hz
 have := of_decide_eq_true (h i hi)
 have := of_decide_eq_true hl
 omega
end Go.AB
namespace Go.Proofs.YtbbdginipiljdaaGreatDoor
set_option maxRecDepth 10000
open Go Go.RowKit Go.AB
open Go.AB.Enc (cells)
open Go.PB (ba ai PlaceD bh bj bi bw aw ah cw br dg dl)
theorem uh8 (z : Int) : Pure Tryz.prog 98 [.v (.int .i64 z)] (.v (.bool (decide (z < 0)))) := by
 refine c6 Tryz.func98 rfl (fun m => .v) fun G nx => ?_
 simp only [Tryz.ntmps98, List.length_cons, List.length_nil, Nat.reduceAdd, Nat.reduceSub]
 refine cc fun hlt => ?_
 dsimp only at hlt
 refine yS fun _ K1 => ?_
 refine yR ?_
 refine yA rfl rfl ?_
 refine yN ?_
 dsimp only [St.put]
 refine K1 _ ?_
 refine yS fun _ K2 => ?_
 refine yR ?_
 refine yM rfl rfl ?_
 refine aa rfl (cp rfl rfl rfl) ?_
 refine yA rfl rfl ?_
 refine yN ?_
 dsimp only [St.put]
 refine K2 _ ?_
 refine ax ?_
 refine bf rfl (by constructor) zN zS ?_
 rfl
theorem ukp (p : ah) : Pure Tryz.prog 97 [.elem (kh p)] (.fn (.func 110) [.elem [.elem (kh p)]]) := by
 refine c6 Tryz.func97 rfl (fun m => (.fn (co (.elem (co (.elem (co (ca _ _) (co (ca _ _) (co (ca _ _) (co (ca _ _) (co (ca _ _) (co (ca _ _) (co (ca _ _) dn)))))))) dn)) dn))) fun G nx => ?_
 simp only [Tryz.ntmps97, List.length_cons, List.length_nil, Nat.reduceAdd, Nat.reduceSub]
 refine cc fun hlt => ?_
 dsimp only at hlt
 refine yS fun _ K1 => ?_
 refine yR ?_
 try dsimp only [St.put]
 refine yB rfl rfl rfl ?_
 refine yA rfl rfl ?_
 refine yN ?_
 dsimp only [St.put]
 refine K1 _ ?_
 refine yS fun _ K2 => ?_
 refine yR ?_
 refine aa rfl (po rfl rfl) ?_
 refine yA rfl rfl ?_
 refine yN ?_
 dsimp only [St.put]
 refine K2 _ ?_
 refine ax ?_
 refine bf rfl (by constructor) zN zS ?_
 rfl
set_option maxHeartbeats 2000000 in
theorem ui3 (n : Nat) (p : ah) (h : eg p) : fa n ez Tryz.prog 79 [.elem (kh p)] (.tup [val (gl p (c4 p) (di p)), .v (.bool (i6 p))]) := fun G nx hF hnx => by
 refine ij (G) (nx) Tryz.func79 rfl (.tup (co (el _ _) (co .v dn))) zN (fun hlt => zH) ?_
 simp only [Tryz.ntmps79, List.length_cons, List.length_nil, Nat.reduceAdd, Nat.reduceSub]
 refine cc fun hlt => ?_
 dsimp only at hlt
 have hn1 := h.nf
 have hn2 := h.ns
 have hnp := h.np
 have hnr : bt p = p.firsts.length + p.seconds.length := rfl
 have hal := nd h.text
 refine yS fun _ K1 => ?_
 refine yR ?_
 try dsimp only [St.put]
 refine af rfl (dx rfl ?_)
 refine yA rfl rfl ?_
 refine yN ?_
 dsimp only [St.put]
 refine K1 _ ?_
 refine yS fun _ K2 => ?_
 refine yR ?_
 try dsimp only [St.put]
 refine af rfl (dx rfl ?_)
 refine yN ?_
 dsimp only [St.put]
 refine K2 _ ?_
 refine n8 (nx + 1) 0 _ _ 3 1 zG rfl (by decide) ?_
 refine n8 (nx + 1) 1 _ _ 3 1 zG rfl (by decide) ?_
 refine n8 (nx + 1) 2 _ _ 40 1 zG rfl (by decide) ?_
 dsimp only [List.set_cons_zero, List.set_cons_succ]
 refine yS fun _ K3 => ?_
 refine yS fun _ K4 => ?_
 refine yR ?_
 refine yM rfl rfl ?_
 try dsimp only [St.put]
 refine af rfl (bc rfl rfl rfl (ukp p) ?_)
 refine yN ?_
 dsimp only [St.put]
 refine K4 _ ?_
 refine bg ?_
 refine ct 15 ?_
 refine zQ ?_
 refine dd ((ak (ak (ak (ak (ak G nx (.box 0 [.list [] .nil, .list [] .nil, .list [] .nil])) (nx + 1) (.box (0) [.list ((bn 0 (c4 p)).map cells) (.tip (nx + 1 + 1)), .list ((bn 0 (di p)).map cells) (.tip (nx + 1 + 1 + 1)), .list (((p.pages.take 0).map (dt p)).map cells) (.tip (nx + 1 + 1 + 1 + 1))])) (nx + 1 + 1) (.tip (bn 0 (c4 p)).length 3 1)) (nx + 1 + 1 + 1) (.tip (bn 0 (di p)).length 3 1)) (nx + 1 + 1 + 1 + 1) (.tip ((p.pages.take 0).map (dt p)).length 40 1))) zX ?_
 dsimp only
 refine ue3 [15] (fun k => (ak (ak (ak (ak (ak G nx (.box 0 [.list [] .nil, .list [] .nil, .list [] .nil])) (nx + 1) (.box (k) [.list ((bn k (c4 p)).map cells) (.tip (nx + 1 + 1)), .list ((bn 0 (di p)).map cells) (.tip (nx + 1 + 1 + 1)), .list (((p.pages.take 0).map (dt p)).map cells) (.tip (nx + 1 + 1 + 1 + 1))])) (nx + 1 + 1) (.tip (bn k (c4 p)).length 3 1)) (nx + 1 + 1 + 1) (.tip (bn 0 (di p)).length 3 1)) (nx + 1 + 1 + 1 + 1) (.tip ((p.pages.take 0).map (dt p)).length 40 1))) (fun k => [(15, .v (.int .i64 (c4 p k)))]) (ukq n p h) (fun k => zG) (by (try dsimp only); omega) rfl rfl (fun _ => rfl) ?_ ?_ ?_ (fun lr k hrk => ?_) ?_
 ·intro k
  rfl
 ·exact zX
 ·intro k
  exact zH
 ·have hll := g3 k (c4 p)
  refine yR ?_
  refine yA rfl rfl ?_
  refine yN ?_
  dsimp only [St.put]
  show AW _ _ _ _ _
  refine bg ?_
  refine yR ?_
  refine aa rfl (bk rfl rfl) ?_
  try dsimp only [St.put]
  refine ck rfl (fu rfl rfl zG trivial (by first | rfl | assumption)) ?_
  refine yM rfl rfl ?_
  try dsimp only [St.put]
  refine af rfl (b9 rfl rfl rfl (by decide) (by decide) zR (by decide) ?_)
  try dsimp only [St.put]
  refine af rfl (cg ([c4 p k]) rfl rfl zG zE rfl rfl zA ?_ zA)
  refine aa rfl (bk rfl rfl) ?_
  try dsimp only [St.put]
  refine af rfl (cd rfl rfl rfl zG (by constructor) rfl zO ?_)
  refine yN ?_
  dsimp only [St.put]
  rw [← pc k (c4 p)]
  exact zX
 dsimp only
 refine K3 _ ?_
 refine yS fun _ K5 => ?_
 refine yS fun _ K6 => ?_
 refine yR ?_
 refine yM rfl rfl ?_
 refine aa rfl (k7 rfl rfl) ?_
 refine yF rfl rfl rfl rfl ?_
 refine yF rfl rfl rfl rfl ?_
 refine yL rfl rfl rfl ?_
 refine aa rfl (bp rfl rfl (List.length_map _)) ?_
 refine yM rfl rfl ?_
 refine yN ?_
 dsimp only [St.put]
 refine K6 _ ?_
 refine bg ?_
 refine ct 29 ?_
 refine zQ ?_
 refine dd ((ak (ak (ak (ak (ak G nx (.box 0 [.list [] .nil, .list [] .nil, .list [] .nil])) (nx + 1) (.box ((bt p)) [.list ((bn (bt p) (c4 p)).map cells) (.tip (nx + 1 + 1)), .list ((bn 0 (di p)).map cells) (.tip (nx + 1 + 1 + 1)), .list (((p.pages.take 0).map (dt p)).map cells) (.tip (nx + 1 + 1 + 1 + 1))])) (nx + 1 + 1) (.tip (bn (bt p) (c4 p)).length 3 1)) (nx + 1 + 1 + 1) (.tip (bn 0 (di p)).length 3 1)) (nx + 1 + 1 + 1 + 1) (.tip ((p.pages.take 0).map (dt p)).length 40 1))) zX ?_
 dsimp only
 refine dc (X := Nat) (fun j => j ≤ p.pages.length) (fun j => p.pages.length - j) (fun j => [(6, .any), (7, .any), (8, .any), (9, .any), (10, .any), (11, .any), (12, .any), (28, .v (.int .i64 (j : Int)))]) (fun j G' => (ak (ak (ak (ak (ak G nx (.box 0 [.list [] .nil, .list [] .nil, .list [] .nil])) (nx + 1) (.box ((bt p + 2 * j)) [.list ((bn (bt p) (c4 p)).map cells) (.tip (nx + 1 + 1)), .list ((bn j (di p)).map cells) (.tip (nx + 1 + 1 + 1)), .list (((p.pages.take j).map (dt p)).map cells) (.tip (nx + 1 + 1 + 1 + 1))])) (nx + 1 + 1) (.tip (bn (bt p) (c4 p)).length 3 1)) (nx + 1 + 1 + 1) (.tip (bn j (di p)).length 3 1)) (nx + 1 + 1 + 1 + 1) (.tip ((p.pages.take j).map (dt p)).length 40 1))) 0 rfl ?_ ?_ ?_ ?_ ?_ ?_
 ·exact Nat.zero_le _
 ·exact zF
 ·exact zX
 ·rintro j hI
  exact zL
 ·rintro j hI
  exact zH
 rintro j hJ
 dsimp only at hJ ⊢
 refine yS fun _ K7 => ?_
 refine yR ?_
 refine aa rfl (cp rfl rfl rfl) ?_
 refine yN ?_
 dsimp only [St.put]
 refine K7 _ ?_
 refine yS fun _ K8 => ?_
 refine av rfl (fun hc => ?_) (fun hc => ?_)
 ·replace hc := of_decide_eq_true hc
  obtain ⟨x, hx⟩ : ∃ x, p.pages[j]? = some x := dp (by omega)
  have hw1 : (p.pages.map fun x => (dm p.text x : Int))[j]? = some (dm p.text x : Int) := ql (fun x => (dm p.text x : Int)) hx
  have hw2 := ql (cr p.text) hx
  have hgl := te p.text x
  have hwx := rm p.text x
  have hll := g3 j (di p)
  have hp := pageB_true.1 (h.page j x hx)
  have hp1 := hp.fst
  have hp2 := hp.snd
  have hll2 : ((p.pages.take j).map (dt p)).length ≤ 8 := by rw [List.length_map, List.length_take]; omega
  refine ay ?_
  refine K8 _ ?_
  refine yS fun _ K9 => ?_
  refine bg ?_
  refine yS fun _ K10 => ?_
  refine yR ?_
  refine yM rfl rfl ?_
  refine aa rfl (bx rfl rfl rfl rfl (bv (by assumption)) (Enc.len _)) ?_
  refine yE rfl rfl rfl ?_
  try dsimp only [St.put]
  refine af rfl (dx rfl ?_)
  refine yA rfl rfl ?_
  try dsimp only [St.put]
  refine af rfl (dh rfl rfl rfl zG rfl rfl (by rfl) ?_)
  refine yN ?_
  dsimp only [St.put]
  refine K10 _ ?_
  refine gh (i := 7) rfl zG zC ?_
  dsimp only
  refine yS fun _ K11 => ?_
  refine g7 [(0, none), (1, none), (2, none), (3, none), (4, none), (5, none), (6, none), (7, none), (8, none), (9, none), (10, none), (11, none), (12, none), (13, none), (14, none), (15, none), (16, none), (17, none), (18, none), (19, none), (20, none), (21, none)] (fun i => [19, 21].contains i) (fun i => [18, 19, 21].contains i) (fun i => [0, 2, 3, 4, 6, 7, 9, 10, 11, 13, 14, 16, 17, 20].contains i) [nx + 1] (by kernel_rfl) (by kernel_rfl) ?_
  refine ae rfl rfl rfl rfl (bk rfl rfl) ?_
  try dsimp only [St.put]
  refine bd rfl rfl rfl rfl (fu rfl rfl zG (by simp) (by first | rfl | assumption)) ?_
  refine xM rfl rfl rfl rfl rfl ?_
  refine ae rfl rfl rfl rfl (k7 rfl rfl) ?_
  refine ae rfl rfl rfl rfl (cx rfl rfl rfl) ?_
  try dsimp only [St.put]
  refine bd rfl rfl rfl rfl (cm rfl rfl) ?_
  refine xM rfl rfl rfl rfl rfl ?_
  try dsimp only [St.put]
  refine ae rfl rfl rfl rfl (bx rfl rfl rfl rfl (bv (by assumption)) (Enc.len _)) ?_
  try dsimp only [St.put]
  refine bd rfl rfl rfl rfl (cm rfl rfl) ?_
  refine xM rfl rfl rfl rfl rfl ?_
  refine ae rfl rfl rfl rfl (k7 rfl rfl) ?_
  refine ae rfl rfl rfl rfl (cx rfl rfl rfl) ?_
  try dsimp only [St.put]
  refine bd rfl rfl rfl rfl (cm rfl rfl) ?_
  refine xM rfl rfl rfl rfl rfl ?_
  try dsimp only [St.put]
  refine ae rfl rfl rfl rfl (bx rfl rfl rfl rfl (bv (by assumption)) (Enc.len _)) ?_
  try dsimp only [St.put]
  refine bd rfl rfl rfl rfl (cm rfl rfl) ?_
  refine ae rfl rfl rfl rfl (bp rfl rfl (List.length_map _)) ?_
  refine ae rfl rfl rfl rfl (gt rfl rfl rfl (by omega)) ?_
  refine jo ?_
  try dsimp only [St.put]
  refine ka rfl rfl rfl (b9 rfl rfl rfl (by decide) (by decide) zR (by decide) ⟨zD, ?_⟩)
  try dsimp only [St.put]
  refine g8 rfl rfl rfl rfl (cg ([(dm p.text x : Int) - ((cr p.text x).length : Int)]) rfl rfl zG zE rfl rfl zA ?_ zA)
  refine c8 rfl rfl rfl rfl (bk rfl rfl) ?_
  try dsimp only [St.put]
  refine g8 rfl rfl rfl rfl (cd rfl rfl rfl zG (by constructor) rfl zO ?_)
  refine ji ?_
  dsimp only [St.put]
  have e := pc j (di p)
  rw [show di p j = (dm p.text x : Int) - ((cr p.text x).length : Int) from ms hx _] at e
  simp only [← e]
  refine K11 _ ?_
  refine yS fun _ K12 => ?_
  refine yR ?_
  refine yA rfl rfl ?_
  refine yN ?_
  dsimp only [St.put]
  refine K12 _ ?_
  refine m9 8 3 1 rfl (by decide) ?_
  dsimp only [List.set_cons_zero, List.set_cons_succ]
  refine yS fun _ K13 => ?_
  refine yR ?_
  refine yA rfl rfl ?_
  refine yN ?_
  dsimp only [St.put]
  refine K13 _ ?_
  refine yS fun _ K14 => ?_
  refine yS fun _ K15 => ?_
  refine yR ?_
  try dsimp only [St.put]
  refine ck rfl (mq (n := 6) (m := n) rfl rfl zG rfl) ?_
  refine yM rfl rfl ?_
  refine yN ?_
  dsimp only [St.put]
  refine K15 _ ?_
  refine bg ?_
  refine ct 56 ?_
  refine zQ ?_
  refine dd (ak ((ak (ak (ak (ak (ak G nx (.box 0 [.list [] .nil, .list [] .nil, .list [] .nil])) (nx + 1) (.box ((bt p + 2 * j + 1)) [.list ((bn (bt p) (c4 p)).map cells) (.tip (nx + 1 + 1)), .list ((bn (j + 1) (di p)).map cells) (.tip (nx + 1 + 1 + 1)), .list (((p.pages.take j).map (dt p)).map cells) (.tip (nx + 1 + 1 + 1 + 1))])) (nx + 1 + 1) (.tip (bn (bt p) (c4 p)).length 3 1)) (nx + 1 + 1 + 1) (.tip (bn (j + 1) (di p)).length 3 1)) (nx + 1 + 1 + 1 + 1) (.tip ((p.pages.take j).map (dt p)).length 40 1))) (nx + 1 + 1 + 1 + 1 + 1 + 1) (.tip 0 3 1)) zX ?_
  dsimp only
  refine dc (X := Nat) (fun k => k ≤ 2) (fun k => 2 - k) (fun k => [(8, .list ((ow p x k).map cells) (.tip (nx + 1 + 1 + 1 + 1 + 1 + 1))), (9, .v (.int .i64 (sdN p k : Int))), (11, .any), (12, .any), (55, .v (.int .i64 (k : Int)))]) (fun k G' => ak ((ak (ak (ak (ak (ak G nx (.box 0 [.list [] .nil, .list [] .nil, .list [] .nil])) (nx + 1) (.box ((bt p + 2 * j + 1)) [.list ((bn (bt p) (c4 p)).map cells) (.tip (nx + 1 + 1)), .list ((bn (j + 1) (di p)).map cells) (.tip (nx + 1 + 1 + 1)), .list (((p.pages.take j).map (dt p)).map cells) (.tip (nx + 1 + 1 + 1 + 1))])) (nx + 1 + 1) (.tip (bn (bt p) (c4 p)).length 3 1)) (nx + 1 + 1 + 1) (.tip (bn (j + 1) (di p)).length 3 1)) (nx + 1 + 1 + 1 + 1) (.tip ((p.pages.take j).map (dt p)).length 40 1))) (nx + 1 + 1 + 1 + 1 + 1 + 1) (.tip (ow p x k).length 3 1)) 0 rfl ?_ ?_ ?_ ?_ ?_ ?_
  ·exact Nat.zero_le _
  ·exact zF
  ·exact zX
  ·rintro k hI
   exact zL
  ·rintro k hI
   exact zH
  rintro k hK
  dsimp only at hK ⊢
  refine yS fun _ K16 => ?_
  refine yR ?_
  refine aa rfl (cp rfl rfl rfl) ?_
  refine yN ?_
  dsimp only [St.put]
  refine K16 _ ?_
  refine yS fun _ K17 => ?_
  refine av rfl (fun hc => ?_) (fun hc => ?_)
  ·replace hc := of_decide_eq_true hc
   have hk : k < 2 := by omega
   have hsd : sdN p k ≤ 3 ∧ (dv p (decide (k = 1))).length ≤ 3 ∧ -1 ≤ eh (decide (k = 1)) x ∧ eh (decide (k = 1)) x ≤ 3 := by
    have : k = 0 ∨ k = 1 := by omega
    rcases this with rfl | rfl
    ·exact ⟨Nat.zero_le _, hn1, by show -1 ≤ x.fst; omega, by show x.fst ≤ 3; omega⟩
    exact ⟨hn1, hn2, by show -1 ≤ x.snd; omega, by show x.snd ≤ 3; omega⟩
   have hst : ow p x (k + 1) = ow p x k ++ bif decide (0 ≤ eh (decide (k = 1)) x) then [(sdN p k : Int) + eh (decide (k = 1)) x] else [] := rfl
   have hrl := uba p x k
   refine ay ?_
   refine K17 _ ?_
   refine yS fun _ K18 => ?_
   refine bg ?_
   refine yS fun _ K19 => ?_
   refine yR ?_
   refine aa rfl (uy (k := k) (m := 2) (sz := 3) rfl rfl rfl rfl hk (uh hk)) ?_
   try dsimp only [St.put]
   refine af rfl (dx rfl ?_)
   try dsimp only [St.put]
   refine af rfl (dh rfl rfl rfl zG rfl rfl (by rfl) ?_)
   refine yN ?_
   dsimp only [St.put]
   refine K19 _ ?_
   refine gh (i := 11) rfl zG zC ?_
   dsimp only
   refine yS fun _ K20 => ?_
   refine yS fun _ K21 => ?_
   refine yR ?_
   refine yF rfl rfl rfl rfl ?_
   refine yL rfl rfl rfl ?_
   refine yE rfl rfl rfl ?_
   try dsimp only [St.put]
   refine af rfl (bc rfl rfl rfl (xh (decide (k = 1)) x) ?_)
   refine yA rfl rfl ?_
   refine yN ?_
   dsimp only [St.put]
   refine K21 _ ?_
   refine yS fun _ K22 => ?_
   refine yR ?_
   refine yM rfl rfl ?_
   refine aa rfl (lp rfl rfl rfl) ?_
   refine yN ?_
   dsimp only [St.put]
   refine K22 _ ?_
   refine av rfl (fun hc => ?_) (fun hc => ?_)
   ·have hyes : 0 ≤ eh (decide (k = 1)) x := of_decide_eq_true hc
    refine yR ?_
    refine yM rfl rfl ?_
    refine yM rfl rfl ?_
    refine yM rfl rfl ?_
    refine aa rfl (bz rfl rfl rfl (by omega)) ?_
    try dsimp only [St.put]
    refine af rfl (b9 rfl rfl rfl (by decide) (by decide) zR (by decide) ?_)
    try dsimp only [St.put]
    refine af rfl (cg ([(sdN p k : Int) + eh (decide (k = 1)) x]) rfl rfl zG zE rfl rfl zA ?_ zA)
    refine yA rfl rfl ?_
    refine yN ?_
    dsimp only [St.put]
    refine K20 _ ?_
    refine g7 [(0, none), (1, none), (2, none), (3, none), (4, none), (5, none), (6, none), (7, none), (8, none), (9, none), (10, none)] (fun i => [7].contains i) (fun i => [7].contains i) (fun i => [0, 1, 3, 4, 5, 8, 9, 10].contains i) [] (by kernel_rfl) (by kernel_rfl) ?_
    refine xM rfl rfl rfl rfl rfl ?_
    refine ae rfl rfl rfl rfl (cx rfl rfl rfl) ?_
    try dsimp only [St.put]
    refine bd rfl rfl rfl rfl (cm rfl rfl) ?_
    refine xM rfl rfl rfl rfl rfl ?_
    refine ae rfl rfl rfl rfl (k7 rfl rfl) ?_
    refine ae rfl rfl rfl rfl (cx rfl rfl rfl) ?_
    try dsimp only [St.put]
    refine bd rfl rfl rfl rfl (c := val p) (j0 (cs := kh p) rfl rfl (show 4 ≤ 7 by decide)) ?_
    refine jo ?_
    try dsimp only [St.put]
    refine g8 rfl rfl rfl rfl (bc rfl rfl rfl (ou (decide (k = 1)) p) ?_)
    refine c8 rfl rfl rfl rfl (bp rfl rfl (List.length_map _)) ?_
    refine c8 rfl rfl rfl rfl (bz rfl rfl rfl (by omega)) ?_
    refine c8 rfl rfl rfl rfl (fp rfl (by constructor)) ?_
    refine ji ?_
    dsimp only [St.put]
    refine K18 _ ?_
    refine yR ?_
    refine aa rfl (bz rfl rfl rfl (by omega)) ?_
    refine yM rfl rfl ?_
    refine yN ?_
    dsimp only [St.put]
    rw [show ((sdN p k : Nat) : Int) + ((dv p (decide (k = 1))).length : Int) = ((sdN p (k + 1) : Nat) : Int) by rw [xg hk]; omega]
    first
    | (have z : 0 ≤ eh (decide (k = 1)) x := hyes
       rw [decide_eq_true z, cond_true] at hst
       rw [← hst]
       exact ⟨k + 1, by omega, by omega, ⟨⟨rfl, rfl⟩, zF, zB, zN, zX⟩⟩)
    | (have z : ¬ 0 ≤ eh (decide (k = 1)) x := hno
       rw [decide_eq_false z, cond_false, List.append_nil] at hst
       rw [← hst]
       exact ⟨k + 1, by omega, by omega, ⟨⟨rfl, rfl⟩, zF, zB, zN, zX⟩⟩)
   have hno : ¬ 0 ≤ eh (decide (k = 1)) x := of_decide_eq_false hc
   refine ay ?_
   refine K20 _ ?_
   refine g7 [(0, none), (1, none), (2, none), (3, none), (4, none), (5, none), (6, none), (7, none), (8, none), (9, none), (10, none)] (fun i => [7].contains i) (fun i => [7].contains i) (fun i => [0, 1, 3, 4, 5, 8, 9, 10].contains i) [] (by kernel_rfl) (by kernel_rfl) ?_
   refine xM rfl rfl rfl rfl rfl ?_
   refine ae rfl rfl rfl rfl (cx rfl rfl rfl) ?_
   try dsimp only [St.put]
   refine bd rfl rfl rfl rfl (cm rfl rfl) ?_
   refine xM rfl rfl rfl rfl rfl ?_
   refine ae rfl rfl rfl rfl (k7 rfl rfl) ?_
   refine ae rfl rfl rfl rfl (cx rfl rfl rfl) ?_
   try dsimp only [St.put]
   refine bd rfl rfl rfl rfl (c := val p) (j0 (cs := kh p) rfl rfl (show 4 ≤ 7 by decide)) ?_
   refine jo ?_
   try dsimp only [St.put]
   refine g8 rfl rfl rfl rfl (bc rfl rfl rfl (ou (decide (k = 1)) p) ?_)
   refine c8 rfl rfl rfl rfl (bp rfl rfl (List.length_map _)) ?_
   refine c8 rfl rfl rfl rfl (bz rfl rfl rfl (by omega)) ?_
   refine c8 rfl rfl rfl rfl (fp rfl (by constructor)) ?_
   refine ji ?_
   dsimp only [St.put]
   refine K18 _ ?_
   refine yR ?_
   refine aa rfl (bz rfl rfl rfl (by omega)) ?_
   refine yM rfl rfl ?_
   refine yN ?_
   dsimp only [St.put]
   rw [show ((sdN p k : Nat) : Int) + ((dv p (decide (k = 1))).length : Int) = ((sdN p (k + 1) : Nat) : Int) by rw [xg hk]; omega]
   first
   | (have z : 0 ≤ eh (decide (k = 1)) x := hyes
      rw [decide_eq_true z, cond_true] at hst
      rw [← hst]
      exact ⟨k + 1, by omega, by omega, ⟨⟨rfl, rfl⟩, zF, zB, zN, zX⟩⟩)
   | (have z : ¬ 0 ≤ eh (decide (k = 1)) x := hno
      rw [decide_eq_false z, cond_false, List.append_nil] at hst
      rw [← hst]
      exact ⟨k + 1, by omega, by omega, ⟨⟨rfl, rfl⟩, zF, zB, zN, zX⟩⟩)
  replace hc := of_decide_eq_false hc
  obtain rfl : k = 2 := by omega
  rw [uik]
  refine ra 8 (lst (dt p x)) rfl Wk.tok ?_
  refine c7 ?_
  refine K14 _ ?_
  refine yR ?_
  refine aa rfl (bk rfl rfl) ?_
  try dsimp only [St.put]
  refine ck rfl (fu rfl rfl zG trivial (by first | rfl | assumption)) ?_
  refine yM rfl rfl ?_
  try dsimp only [St.put]
  refine af rfl (b9 rfl rfl rfl (by decide) (by decide) zR (by decide) ?_)
  try dsimp only [St.put]
  refine af rfl (cg ([dt p x]) rfl rfl zG zE rfl rfl zA ?_ zA)
  refine aa rfl (bk rfl rfl) ?_
  try dsimp only [St.put]
  refine af rfl (cd rfl rfl rfl zG (by constructor) rfl zO ?_)
  refine yN ?_
  dsimp only [St.put]
  refine K9 _ ?_
  refine yR ?_
  refine aa rfl (bz rfl rfl rfl (by omega)) ?_
  refine yM rfl rfl ?_
  refine yN ?_
  dsimp only [St.put]
  have e2 := ukd (dt p) hx
  simp only [← e2]
  exact ⟨j + 1, by omega, by omega, ⟨⟨rfl, rfl⟩, zF, zB, zN, zX⟩⟩
 replace hc := of_decide_eq_false hc
 obtain rfl : j = p.pages.length := by omega
 rw [List.take_length]
 refine v7 (nx + 1) (bt p + 2 * p.pages.length) (cells (gl p (c4 p) (di p))) zG zW ?_
 refine c7 ?_
 refine K5 _ ?_
 refine yS fun _ K23 => ?_
 refine g7 [(0, none), (1, none), (2, none), (3, none), (4, none), (5, none), (6, none)] (fun i => [5].contains i) (fun i => [3, 5].contains i) (fun i => [1, 4, 6].contains i) [nx + 1] (by kernel_rfl) (by kernel_rfl) ?_
 try dsimp only [St.put]
 refine bd rfl rfl rfl rfl (i1 rfl rfl zG (by simp) (by rfl)) ?_
 refine ae rfl rfl rfl rfl (bk rfl rfl) ?_
 try dsimp only [St.put]
 refine bd rfl rfl rfl rfl (fu rfl rfl zG (by simp) (by first | rfl | assumption)) ?_
 refine jo ?_
 try dsimp only [St.put]
 refine ka rfl rfl rfl (bc rfl rfl rfl (wj (bn (bt p) (c4 p)) (fun z => decide (z < 0)) _ _ fun z _ => uh8 z) ⟨zD, ?_⟩)
 refine c8 rfl rfl rfl rfl (d7 rfl rfl) ?_
 try dsimp only [St.put]
 refine g8 rfl rfl rfl rfl (dh rfl rfl rfl zG rfl rfl (by rfl) ?_)
 refine c8 rfl rfl rfl rfl (fp rfl (by constructor)) ?_
 refine ji ?_
 dsimp only [St.put]
 refine K23 _ ?_
 refine ax ?_
 refine ia rfl (j1 rfl zG (by rfl) zC rfl) (ef (by constructor)) zN zS ?_ ?_
 ·exact zW
 rw [uks]; exact zW
theorem uh9 (m : Nat) (e : Int) (p : ah) : C.low m (bif decide (e = 0) then val (gl p (c4 p) (di p)) else .agg [.list [] .nil, .list [] .nil, .list [] .nil]) := by
 cases decide (e = 0)
 ·exact .agg (co fk (co fk (co fk dn)))
 exact el _ _
theorem ubq (n : Nat) (p : ah) (c : C) (e : Int) (h : e = 0 → eg p ∧ c = .elem (kh p)) : fa n ez Tryz.prog 41 [c, .v (.int .i64 e)] (.tup [bif decide (fo p e = 0) then val (gl p (c4 p) (di p)) else .agg [.list [] .nil, .list [] .nil, .list [] .nil], .v (.int .i64 (fo p e))]) := fun G nx hF hnx => by
 refine ij (G) (nx) Tryz.func41 rfl (.tup (co (uh9 _ _ _) (co .v dn))) zN (fun hlt => zH) ?_
 simp only [Tryz.ntmps41, List.length_cons, List.length_nil, Nat.reduceAdd, Nat.reduceSub]
 refine cc fun hlt => ?_
 dsimp only at hlt
 refine yS fun _ K1 => ?_
 refine yR ?_
 try dsimp only [St.put]
 refine af rfl (dx rfl ?_)
 refine yA rfl rfl ?_
 refine yN ?_
 dsimp only [St.put]
 refine K1 _ ?_
 refine yS fun _ K2 => ?_
 refine yS fun _ K3 => ?_
 refine yR ?_
 refine yM rfl rfl ?_
 refine aa rfl (fl rfl rfl rfl) ?_
 refine yN ?_
 dsimp only [St.put]
 refine K3 _ ?_
 refine av rfl (fun hc => ?_) (fun hc => ?_)
 ·have h0 : e ≠ 0 := jl hc
  have hE : fo p e = e := uc2 h0
  refine yS fun _ K4 => ?_
  refine yR ?_
  refine aa rfl (ip rfl rfl) ?_
  refine yM rfl rfl ?_
  try dsimp only [St.put]
  refine af rfl (dh rfl rfl rfl zG rfl rfl (by rfl) ?_)
  refine yA rfl rfl ?_
  refine yN ?_
  dsimp only [St.put]
  refine K4 _ ?_
  refine ax ?_
  refine ia rfl (j1 rfl zG (by rfl) zC rfl) (ef (by constructor)) zN zS ?_ ?_
  ·rw [hE, decide_eq_false h0]; exact zW
  rw [hE]; exact zW
 have h0 : e = 0 := ie hc
 obtain ⟨hok, rfl⟩ := h h0
 subst h0
 refine ay ?_
 refine K2 _ ?_
 refine yS fun _ K5 => ?_
 refine yR ?_
 refine yM rfl rfl ?_
 try dsimp only [St.put]
 refine af rfl (ed rfl rfl rfl (ui3 n p hok) zG (by dsimp only [St.put]; omega) ?_)
 refine yM rfl rfl ?_
 refine yX rfl rfl rfl rfl ?_
 refine yX rfl rfl rfl rfl ?_
 try dsimp only [St.put]
 refine af rfl (dx rfl ?_)
 try dsimp only [St.put]
 refine af rfl (dh rfl rfl rfl zG rfl rfl (by rfl) ?_)
 refine yA rfl rfl ?_
 refine yN ?_
 dsimp only [St.put]
 refine K5 _ ?_
 refine yS fun _ K6 => ?_
 refine yS fun _ K7 => ?_
 refine yR ?_
 refine yM rfl rfl ?_
 refine aa rfl (d7 rfl rfl) ?_
 refine yN ?_
 dsimp only [St.put]
 refine K7 _ ?_
 refine av rfl (fun hc => ?_) (fun hc => ?_)
 ·have hTB : i6 p = false := by simpa using hc
  have hE : fo p 0 = 8 := by rw [qp, hTB]; rfl
  refine yS fun _ K8 => ?_
  refine yR ?_
  refine aa rfl (ip rfl rfl) ?_
  try dsimp only [St.put]
  refine af rfl (dh rfl rfl rfl zG rfl rfl (by rfl) ?_)
  refine yA rfl rfl ?_
  refine yN ?_
  dsimp only [St.put]
  refine K8 _ ?_
  refine ax ?_
  refine ia rfl (j1 rfl zG (by rfl) zC rfl) (ef (by constructor)) zN zS ?_ ?_
  ·rw [hE]; exact zW
  rw [hE]; exact zW
 have hTB : i6 p = true := by simpa using hc
 have hE : fo p 0 = 0 := by rw [qp, hTB]; rfl
 refine ay ?_
 refine K6 _ ?_
 refine yS fun _ K9 => ?_
 refine yR ?_
 try dsimp only [St.put]
 refine ck rfl (i1 rfl rfl zG trivial (by rfl)) ?_
 try dsimp only [St.put]
 refine af rfl (dh rfl rfl rfl zG rfl rfl (by rfl) ?_)
 refine yA rfl rfl ?_
 refine yN ?_
 dsimp only [St.put]
 refine K9 _ ?_
 refine ax ?_
 refine ia rfl (j1 rfl zG (by rfl) zC rfl) (ef (by constructor)) zN zS ?_ ?_
 ·rw [hE]; exact zW
 rw [hE]; exact zW
end Go.Proofs.YtbbdginipiljdaaGreatDoor
namespace Go.AB
open Go Go.RowKit
open Go.AB.Enc (cells)
open Go.PB (ba ai PlaceD bh bj bi bw aw ah cw br dg dl)
/-- what may remain ahead of a page, by the worst truth -/
noncomputable def rmR (p : ah) (i : Nat) : Nat → Int := ((bu p).room (c4 p) (di p) i).1
noncomputable def rmC (p : ah) (i : Nat) : Nat → Int := ((bu p).room (c4 p) (di p) i).2
theorem uh6 (p : ah) (i : Nat) : rmR p (i + 1) = (bu p).lessR (rmR p i) i (jq p i) := rfl
theorem uh7 (p : ah) (i : Nat) : rmC p (i + 1) = er (rmC p i) i := rfl
theorem zx {p : ah} (h : eg p) (ht : i6 p = true) {i : Nat} (hi : i < p.pages.length) : (bu p).Pick (rmR p i) (rmC p i) i ((bu p).pick (rmR p i) (rmC p i) i) :=
 Net.worst_pick (x7 h) (ugn ht) (fun j _ => ueo h j) hi
theorem zy (p : ah) (i : Nat) : jq p i = (bu p).pick (rmR p i) (rmC p i) i := rfl
theorem ua6 {p : ah} (h : eg p) (ht : i6 p = true) : ∀ {i : Nat}, i ≤ p.pages.length → Bd p (rmR p i) (rmC p i)
 | 0, _ => tn h
 | i + 1, hi => by
  have hp := zx h ht (i := i) (by omega)
  rw [uh6, uh7, zy]
  exact zl (ua6 h ht (by omega)) hp.nn hp.le
theorem unh {p : ah} {R C : Nat → Int} (hB : Bd p R C) (j : Nat) : (bu p).alone R C j ≤ 1000000 := Int.le_trans (Net.le_alone.1 (Int.le_refl _)).1 (hB.c j).2
end Go.AB
namespace Go.Proofs.YtbbdginipiljdaaGreatDoor
set_option maxRecDepth 10000
open Go.RowKit Go.AB
open Go.AB.Enc (cells)
open Go.PB (ba ai PlaceD bh bj bi bw aw ah cw br dg dl)
end Go.Proofs.YtbbdginipiljdaaGreatDoor
namespace Go.AB
open Go Go.RowKit
open Go.AB.Enc (cells)
open Go.PB (ba ai PlaceD bh bj bi bw aw ah cw br dg dl)
theorem sw {p : ah} {e : Int} (h : fo p e = 0) : e = 0 ∧ i6 p = true := by
 by_cases h0 : e = 0
 ·subst h0
  rw [qp] at h
  cases ht : i6 p
  ·rw [ht] at h; cases h
  exact ⟨rfl, rfl⟩
 rw [uc2 h0] at h; exact absurd h h0
end Go.AB
namespace Go.Proofs.YtbbdginipiljdaaGreatDoor
set_option maxRecDepth 10000
open Go Go.RowKit Go.AB
open Go.AB.Enc (cells)
open Go.PB (ba ai PlaceD bh bj bi bw aw ah cw br dg dl)
theorem ue8 {p : ah} {n : Int} (h : eo p n = 0) : eg p ∧ pgC p n = .elem (kh p) := ⟨(lg (p6 h).1).1, r6 h⟩
theorem o7 {p : ah} (h : cv p = 0) : eg p ∧ ju p = .elem (kh p) := ⟨(lg h).1, uv h⟩
theorem r8 (n : Nat) (p : ah) (c : C) (e : Int) (h : e = 0 → eg p ∧ c = .elem (kh p)) (hE : fo p e = 0) : fa n ez Tryz.prog 41 [c, .v (.int .i64 e)] (.tup [val (gl p (c4 p) (di p)), .v (.int .i64 0)]) := by
 have := ubq n p c e h
 rwa [hE, decide_eq_true rfl, cond_true] at this
theorem r9 (n : Nat) (p : ah) (c : C) (e : Int) (h : e = 0 → eg p ∧ c = .elem (kh p)) (hE : fo p e ≠ 0) : fa n ez Tryz.prog 41 [c, .v (.int .i64 e)] (.tup [.agg [.list [] .nil, .list [] .nil, .list [] .nil], .v (.int .i64 (fo p e))]) := by
 have := ubq n p c e h
 rwa [decide_eq_false hE, cond_false] at this
theorem ui4 (n : Nat) (p : ah) (m : Int) : fa n ez Tryz.prog 11 [val p, .v (.int .i64 m)] (.tup [val (pi p m), .v (.int .i64 (fo p (eo p m)))]) := fun G nx hF hnx => by
 refine ij (G) (nx) Tryz.func11 rfl (.tup (co (el _ _) (co .v dn))) zN (fun hlt => zH) ?_
 simp only [Tryz.ntmps11, List.length_cons, List.length_nil, Nat.reduceAdd, Nat.reduceSub]
 refine cc fun hlt => ?_
 dsimp only at hlt
 refine yS fun _ K1 => ?_
 refine yR ?_
 try dsimp only [St.put]
 refine yB rfl rfl rfl ?_
 try dsimp only [St.put]
 refine af rfl (dx rfl ?_)
 refine yA rfl rfl ?_
 refine yN ?_
 dsimp only [St.put]
 refine K1 _ ?_
 refine yS fun _ K2 => ?_
 by_cases hL : fo p (eo p m) = 0
 ·refine yR ?_
  refine yE rfl rfl rfl ?_
  refine yM rfl rfl ?_
  try dsimp only [St.put]
  refine af rfl (ed rfl rfl rfl (qh n p m) zG (by dsimp only [St.put]; omega) ?_)
  refine yX rfl rfl rfl rfl ?_
  refine yX rfl rfl rfl rfl ?_
  try dsimp only [St.put]
  refine af rfl (ed rfl rfl rfl (r8 n p (pgC p m) (eo p m) ue8 hL) zG (by dsimp only [St.put]; omega) ?_)
  refine yM rfl rfl ?_
  refine yX rfl rfl rfl rfl ?_
  refine yX rfl rfl rfl rfl ?_
  try dsimp only [St.put]
  refine af rfl (dx rfl ?_)
  try dsimp only [St.put]
  refine af rfl (dh rfl rfl rfl zG rfl rfl (by rfl) ?_)
  refine yA rfl rfl ?_
  refine yN ?_
  dsimp only [St.put]
  refine K2 _ ?_
  refine yS fun _ K3 => ?_
  refine yS fun _ K4 => ?_
  refine yR ?_
  refine yM rfl rfl ?_
  refine aa rfl (fl rfl rfl rfl) ?_
  refine yN ?_
  dsimp only [St.put]
  refine K4 _ ?_
  refine av rfl (fun hc => ?_) (fun hc => ?_)
  ·exact absurd hc (by decide)
  obtain ⟨h0, hTB⟩ := sw hL
  obtain ⟨hc0, j, x, rfl, hx, hpo⟩ := p6 h0
  obtain ⟨hok, _⟩ := lg hc0
  have hV : pi p (j : Int) = ⟨0, (bu p).alone (c4 p) (di p) j⟩ := by unfold pi; rw [hL, na, Int.toNat_natCast]
  refine ay ?_
  refine K3 _ ?_
  refine yS fun _ K5 => ?_
  refine yR ?_
  try dsimp only [St.put]
  refine ck rfl (i1 rfl rfl zG trivial (by rfl)) ?_
  refine yM rfl rfl ?_
  try dsimp only [St.put]
  refine af rfl (bc rfl rfl rfl (ubs p (c4 p) (di p) j x hok hx) ?_)
  refine aa rfl (ip rfl rfl) ?_
  try dsimp only [St.put]
  refine af rfl (dh rfl rfl rfl zG rfl rfl (by rfl) ?_)
  refine yA rfl rfl ?_
  refine yN ?_
  dsimp only [St.put]
  refine K5 _ ?_
  refine ax ?_
  refine ia rfl (j1 rfl zG (by rfl) zC rfl) (ef (by constructor)) zN zS ?_ ?_
  ·rw [hV]; exact zW
  rw [hL]; exact zW
 refine yR ?_
 refine yE rfl rfl rfl ?_
 refine yM rfl rfl ?_
 try dsimp only [St.put]
 refine af rfl (ed rfl rfl rfl (qh n p m) zG (by dsimp only [St.put]; omega) ?_)
 refine yX rfl rfl rfl rfl ?_
 refine yX rfl rfl rfl rfl ?_
 try dsimp only [St.put]
 refine af rfl (ed rfl rfl rfl (r9 n p (pgC p m) (eo p m) ue8 hL) zG (by dsimp only [St.put]; omega) ?_)
 refine yM rfl rfl ?_
 refine yX rfl rfl rfl rfl ?_
 refine yX rfl rfl rfl rfl ?_
 try dsimp only [St.put]
 refine af rfl (dx rfl ?_)
 try dsimp only [St.put]
 refine af rfl (dh rfl rfl rfl zG rfl rfl (by rfl) ?_)
 refine yA rfl rfl ?_
 refine yN ?_
 dsimp only [St.put]
 refine K2 _ ?_
 refine yS fun _ K6 => ?_
 refine yS fun _ K7 => ?_
 refine yR ?_
 refine yM rfl rfl ?_
 refine aa rfl (fl rfl rfl rfl) ?_
 refine yN ?_
 dsimp only [St.put]
 refine K7 _ ?_
 refine av rfl (fun hc => ?_) (fun hc => ?_)
 ·have hV : pi p m = ⟨0, 0⟩ := by unfold pi; rw [li hL]
  refine yS fun _ K8 => ?_
  refine yR ?_
  refine aa rfl (ip rfl rfl) ?_
  refine yM rfl rfl ?_
  try dsimp only [St.put]
  refine af rfl (dh rfl rfl rfl zG rfl rfl (by rfl) ?_)
  refine yA rfl rfl ?_
  refine yN ?_
  dsimp only [St.put]
  refine K8 _ ?_
  refine ax ?_
  refine ia rfl (j1 rfl zG (by rfl) zC rfl) (ef (by constructor)) zN zS ?_ ?_
  ·rw [hV]; exact zW
  exact zW
 exact absurd (ie hc) hL
theorem xr (n : Nat) (p : ah) : fa n ez Tryz.prog 13 [val p] (.tup [val (oo p), .v (.int .i64 (fo p (cv p)))]) := fun G nx hF hnx => by
 refine ij (G) (nx) Tryz.func13 rfl (.tup (co (el _ _) (co .v dn))) zN (fun hlt => zH) ?_
 simp only [Tryz.ntmps13, List.length_cons, List.length_nil, Nat.reduceAdd, Nat.reduceSub]
 refine cc fun hlt => ?_
 dsimp only at hlt
 refine yS fun _ K1 => ?_
 refine yR ?_
 try dsimp only [St.put]
 refine yB rfl rfl rfl ?_
 try dsimp only [St.put]
 refine af rfl (dx rfl ?_)
 refine yA rfl rfl ?_
 refine yN ?_
 dsimp only [St.put]
 refine K1 _ ?_
 refine yS fun _ K2 => ?_
 by_cases hL : fo p (cv p) = 0
 ·refine yR ?_
  refine yE rfl rfl rfl ?_
  try dsimp only [St.put]
  refine af rfl (ed rfl rfl rfl (nm n p) zG (by dsimp only [St.put]; omega) ?_)
  refine yX rfl rfl rfl rfl ?_
  refine yX rfl rfl rfl rfl ?_
  try dsimp only [St.put]
  refine af rfl (ed rfl rfl rfl (r8 n p (ju p) (cv p) o7 hL) zG (by dsimp only [St.put]; omega) ?_)
  refine yM rfl rfl ?_
  refine yX rfl rfl rfl rfl ?_
  refine yX rfl rfl rfl rfl ?_
  try dsimp only [St.put]
  refine af rfl (dx rfl ?_)
  try dsimp only [St.put]
  refine af rfl (dh rfl rfl rfl zG rfl rfl (by rfl) ?_)
  refine yA rfl rfl ?_
  refine yN ?_
  dsimp only [St.put]
  refine K2 _ ?_
  refine yS fun _ K3 => ?_
  refine yS fun _ K4 => ?_
  refine yR ?_
  refine yM rfl rfl ?_
  refine aa rfl (fl rfl rfl rfl) ?_
  refine yN ?_
  dsimp only [St.put]
  refine K4 _ ?_
  refine av rfl (fun hc => ?_) (fun hc => ?_)
  ·exact absurd hc (by decide)
  obtain ⟨h0, hTB⟩ := sw hL
  obtain ⟨hok, _⟩ := lg h0
  have hV : oo p = ⟨0, (bu p).most (c4 p) (di p)⟩ := by unfold oo; rw [hL, na]; rfl
  refine ay ?_
  refine K3 _ ?_
  refine yS fun _ K5 => ?_
  refine yR ?_
  try dsimp only [St.put]
  refine ck rfl (i1 rfl rfl zG trivial (by rfl)) ?_
  try dsimp only [St.put]
  refine af rfl (bc rfl rfl rfl (sb p (c4 p) (di p) hok (tn hok)) ?_)
  refine aa rfl (ip rfl rfl) ?_
  try dsimp only [St.put]
  refine af rfl (dh rfl rfl rfl zG rfl rfl (by rfl) ?_)
  refine yA rfl rfl ?_
  refine yN ?_
  dsimp only [St.put]
  refine K5 _ ?_
  refine ax ?_
  refine ia rfl (j1 rfl zG (by rfl) zC rfl) (ef (by constructor)) zN zS ?_ ?_
  ·rw [hV]; exact zW
  rw [hL]; exact zW
 refine yR ?_
 refine yE rfl rfl rfl ?_
 try dsimp only [St.put]
 refine af rfl (ed rfl rfl rfl (nm n p) zG (by dsimp only [St.put]; omega) ?_)
 refine yX rfl rfl rfl rfl ?_
 refine yX rfl rfl rfl rfl ?_
 try dsimp only [St.put]
 refine af rfl (ed rfl rfl rfl (r9 n p (ju p) (cv p) o7 hL) zG (by dsimp only [St.put]; omega) ?_)
 refine yM rfl rfl ?_
 refine yX rfl rfl rfl rfl ?_
 refine yX rfl rfl rfl rfl ?_
 try dsimp only [St.put]
 refine af rfl (dx rfl ?_)
 try dsimp only [St.put]
 refine af rfl (dh rfl rfl rfl zG rfl rfl (by rfl) ?_)
 refine yA rfl rfl ?_
 refine yN ?_
 dsimp only [St.put]
 refine K2 _ ?_
 refine yS fun _ K6 => ?_
 refine yS fun _ K7 => ?_
 refine yR ?_
 refine yM rfl rfl ?_
 refine aa rfl (fl rfl rfl rfl) ?_
 refine yN ?_
 dsimp only [St.put]
 refine K7 _ ?_
 refine av rfl (fun hc => ?_) (fun hc => ?_)
 ·have hV : oo p = ⟨0, 0⟩ := by unfold oo; rw [li hL]
  refine yS fun _ K8 => ?_
  refine yR ?_
  refine aa rfl (ip rfl rfl) ?_
  refine yM rfl rfl ?_
  try dsimp only [St.put]
  refine af rfl (dh rfl rfl rfl zG rfl rfl (by rfl) ?_)
  refine yA rfl rfl ?_
  refine yN ?_
  dsimp only [St.put]
  refine K8 _ ?_
  refine ax ?_
  refine ia rfl (j1 rfl zG (by rfl) zC rfl) (ef (by constructor)) zN zS ?_ ?_
  ·rw [hV]; exact zW
  exact zW
 exact absurd (ie hc) hL
set_option maxHeartbeats 1000000 in
theorem uix (n0 : Nat) (p : ah) : fa n0 ez Tryz.prog 15 [val p] (.tup [lst (pa p), .v (.int .i64 (fo p (cv p)))]) := fun G nx hF hnx => by
 refine ij (G) (nx) Tryz.func15 rfl (.tup (co (ca _ _) (co .v dn))) zN (fun hlt => zH) ?_
 simp only [Tryz.ntmps15, List.length_cons, List.length_nil, Nat.reduceAdd, Nat.reduceSub]
 refine cc fun hlt => ?_
 dsimp only at hlt
 refine yS fun _ K1 => ?_
 refine yR ?_
 try dsimp only [St.put]
 refine yB rfl rfl rfl ?_
 refine yA rfl rfl ?_
 refine yA rfl rfl ?_
 refine yN ?_
 dsimp only [St.put]
 refine K1 _ ?_
 refine yS fun _ K2 => ?_
 by_cases hL : fo p (cv p) = 0
 ·refine yR ?_
  refine yE rfl rfl rfl ?_
  try dsimp only [St.put]
  refine af rfl (ed rfl rfl rfl (nm n0 p) zG (by dsimp only [St.put]; omega) ?_)
  refine yX rfl rfl rfl rfl ?_
  refine yX rfl rfl rfl rfl ?_
  try dsimp only [St.put]
  refine af rfl (ed rfl rfl rfl (r8 n0 p (ju p) (cv p) o7 hL) zG (by dsimp only [St.put]; omega) ?_)
  refine yM rfl rfl ?_
  refine yX rfl rfl rfl rfl ?_
  refine yX rfl rfl rfl rfl ?_
  try dsimp only [St.put]
  refine af rfl (dx rfl ?_)
  try dsimp only [St.put]
  refine af rfl (dh rfl rfl rfl zG rfl rfl (by rfl) ?_)
  refine yA rfl rfl ?_
  refine yN ?_
  dsimp only [St.put]
  refine K2 _ ?_
  refine yS fun _ K3 => ?_
  refine yS fun _ K4 => ?_
  refine yR ?_
  refine yM rfl rfl ?_
  refine aa rfl (fl rfl rfl rfl) ?_
  refine yN ?_
  dsimp only [St.put]
  refine K4 _ ?_
  refine av rfl (fun hc => ?_) (fun hc => ?_)
  ·exact absurd hc (by decide)
  obtain ⟨h0, hTB⟩ := sw hL
  obtain ⟨hok, _⟩ := lg h0
  have hnp := hok.np
  have hV : pa p = bn p.pages.length (jq p) := by unfold pa; rw [hL, na]
  refine ay ?_
  refine K3 _ ?_
  refine yS fun _ K5 => ?_
  refine yR ?_
  refine yA rfl rfl ?_
  refine yN ?_
  dsimp only [St.put]
  refine K5 _ ?_
  refine m9 6 3 1 rfl (by decide) ?_
  dsimp only [List.set_cons_zero, List.set_cons_succ]
  refine yS fun _ K6 => ?_
  refine yS fun _ K7 => ?_
  refine yR ?_
  refine yF rfl rfl rfl rfl ?_
  refine yL rfl rfl rfl ?_
  refine aa rfl (bp rfl rfl (List.length_map _)) ?_
  refine yM rfl rfl ?_
  refine yN ?_
  dsimp only [St.put]
  refine K7 _ ?_
  refine bg ?_
  refine ct 25 ?_
  refine zQ ?_
  refine dd ((ak (ak G nx (.box (0 + 1) (cells (gl p (rmR p 0) (rmC p 0))))) (nx + 1) (.tip (bn 0 (jq p)).length 3 1))) zX ?_
  dsimp only
  refine dc (X := Nat) (fun i => i ≤ p.pages.length) (fun i => p.pages.length - i) (fun i => [(6, .list ((bn i (jq p)).map cells) (.tip (nx + 1))), (7, .any), (8, .any), (9, .any), (24, .v (.int .i64 (i : Int)))]) (fun i G' => (ak (ak G nx (.box (i + 1) (cells (gl p (rmR p i) (rmC p i))))) (nx + 1) (.tip (bn i (jq p)).length 3 1))) 0 rfl ?_ ?_ ?_ ?_ ?_ ?_
  ·exact Nat.zero_le _
  ·exact zF
  ·exact zX
  ·rintro i hI
   exact zL
  ·rintro i hI
   exact zH
  rintro i hI
  dsimp only at hI ⊢
  refine yS fun _ K8 => ?_
  refine yR ?_
  refine aa rfl (cp rfl rfl rfl) ?_
  refine yN ?_
  dsimp only [St.put]
  refine K8 _ ?_
  refine yS fun _ K9 => ?_
  refine av rfl (fun hc => ?_) (fun hc => ?_)
  ·replace hc := of_decide_eq_true hc
   have hi : i < p.pages.length := by omega
   obtain ⟨x, hx⟩ : ∃ x, p.pages[i]? = some x := dp hi
   have hB := ua6 hok hTB (Nat.le_of_lt hi)
   have hP := zx hok hTB hi
   have hab := unh hB i
   have hmb := uci hB
   have hln := g3 i (jq p)
   have hPn := hP.nn
   refine ay ?_
   refine K9 _ ?_
   refine yS fun _ K10 => ?_
   refine bg ?_
   refine yS fun _ K11 => ?_
   refine yR ?_
   refine yM rfl rfl ?_
   refine yA rfl rfl ?_
   refine yN ?_
   dsimp only [St.put]
   refine K11 _ ?_
   refine yS fun _ K12 => ?_
   refine g7 [(0, none), (2, none), (3, none), (1, none), (4, none), (5, none), (6, none)] (fun i => [4].contains i) (fun i => [1, 4].contains i) (fun i => [3, 5, 6].contains i) [nx] (by kernel_rfl) (by kernel_rfl) ?_
   try dsimp only [St.put]
   refine bd rfl rfl rfl rfl (i1 rfl rfl zG (by simp) (by rfl)) ?_
   try dsimp only [St.put]
   refine bd rfl rfl rfl rfl (i1 rfl rfl zG (by simp) (by rfl)) ?_
   refine xM rfl rfl rfl rfl rfl ?_
   refine jo ?_
   try dsimp only [St.put]
   refine ka rfl rfl rfl (bc rfl rfl rfl (sb p _ _ hok hB) ⟨zD, ?_⟩)
   try dsimp only [St.put]
   refine g8 rfl rfl rfl rfl (bc rfl rfl rfl (ubs p (rmR p i) (rmC p i) i x hok hx) ?_)
   refine c8 rfl rfl rfl rfl (fp rfl (by constructor)) ?_
   refine c8 rfl rfl rfl rfl (fp rfl (by constructor)) ?_
   refine ji ?_
   dsimp only [St.put]
   refine K12 _ ?_
   refine yS fun _ K13 => ?_
   refine bg ?_
   refine ct 25 ?_
   refine zQ ?_
   refine dc (X := Int) (fun n => FromTop p (rmR p i) (rmC p i) i n) (fun n => n.toNat) (fun n => [(9, .v (.int .i64 n))]) (fun n G' => G') ((bu p).alone (rmR p i) (rmC p i) i) rfl ?_ ?_ (fun _ _ h => h) ?_ ?_ ?_
   ·exact FromTop.start hP
   ·exact zF
   ·rintro n hI
    exact zL
   ·exact fun _ _ _ _ h => .inl h
   rintro n hF2
   dsimp only at hF2 ⊢
   have hF1 := hF2.1
   have hF3 := hF2.2.1
   have hBl := zl hB (by omega) hF2.2.1
   have hmb2 := uci hBl
   refine yS fun _ K14 => ?_
   refine yS fun _ K15 => ?_
   refine yR ?_
   refine yM rfl rfl ?_
   try dsimp only [St.put]
   refine ck rfl (i1 rfl rfl zG trivial (by rfl)) ?_
   refine yM rfl rfl ?_
   refine yM rfl rfl ?_
   try dsimp only [St.put]
   refine af rfl (bc rfl rfl rfl (xp p (rmR p i) (rmC p i) i x n hok hx (by have := hF2.1; have := hF2.2.1; omega) hB.r) ?_)
   try dsimp only [St.put]
   refine af rfl (bc rfl rfl rfl (sb p _ _ hok (zl hB (by have := hF2.1; omega) hF2.2.1)) ?_)
   refine aa rfl (bz rfl rfl rfl (by omega)) ?_
   refine yM rfl rfl ?_
   refine aa rfl (cp rfl rfl rfl) ?_
   refine yN ?_
   dsimp only [St.put]
   refine K15 _ ?_
   refine av rfl (fun hc => ?_) (fun hc => ?_)
   ·replace hc := of_decide_eq_true hc
    have hnot : ¬ (bu p).most (rmR p i) (rmC p i) ≤ n + (bu p).most ((bu p).lessR (rmR p i) i n) (er (rmC p i) i) := by omega
    refine ay ?_
    refine K14 _ ?_
    refine bg ?_
    refine yR ?_
    refine yM rfl rfl ?_
    refine aa rfl (gt rfl rfl rfl (by omega)) ?_
    refine yA rfl rfl ?_
    refine yN ?_
    dsimp only [St.put]
    have hd := FromTop.down hP hF2 hnot
    have hd1 := hd.1
    exact ⟨n - 1, by omega, hd, ⟨⟨rfl, rfl⟩, zF, zB, zN, zX⟩⟩
   replace hc := of_decide_eq_false hc
   have hnw := FromTop.stop hP hF2 (by omega)
   rw [← zy] at hnw
   subst hnw
   refine c7 ?_
   refine K13 _ ?_
   refine yS fun _ K16 => ?_
   refine yR ?_
   try dsimp only [St.put]
   refine ck rfl (i1 rfl rfl zG trivial (by rfl)) ?_
   refine yM rfl rfl ?_
   refine yM rfl rfl ?_
   try dsimp only [St.put]
   refine af rfl (bc rfl rfl rfl (xp p (rmR p i) (rmC p i) i x (jq p i) hok hx (by have := hF2.1; have := hF2.2.1; omega) hB.r) ?_)
   try dsimp only [St.put]
   refine af rfl (dh rfl rfl rfl zG rfl rfl (by rfl) ?_)
   refine yN ?_
   dsimp only [St.put]
   refine K16 _ ?_
   refine yR ?_
   refine yM rfl rfl ?_
   refine yM rfl rfl ?_
   try dsimp only [St.put]
   refine af rfl (b9 rfl rfl rfl (by decide) (by decide) zR (by decide) ?_)
   try dsimp only [St.put]
   refine af rfl (cg ([jq p i]) rfl rfl zG zE rfl rfl zA ?_ zA)
   refine yA rfl rfl ?_
   refine yN ?_
   dsimp only [St.put]
   refine K10 _ ?_
   refine yR ?_
   refine aa rfl (bz rfl rfl rfl (by omega)) ?_
   refine yM rfl rfl ?_
   refine yN ?_
   dsimp only [St.put]
   have e := pc i (jq p)
   rw [← e]
   exact ⟨i + 1, by omega, by omega, ⟨⟨rfl, rfl⟩, zF, zB, zN, zX⟩⟩
  replace hc := of_decide_eq_false hc
  obtain rfl : i = p.pages.length := by omega
  refine c7 ?_
  refine K6 _ ?_
  refine yS fun _ K17 => ?_
  refine yR ?_
  refine yM rfl rfl ?_
  refine yA rfl rfl ?_
  refine yA rfl rfl ?_
  refine yN ?_
  dsimp only [St.put]
  refine K17 _ ?_
  refine ax ?_
  refine ia rfl (ef (by constructor)) (ef (by constructor)) zN zS ?_ ?_
  ·rw [hV]; exact zW
  rw [hL]; exact zW
 refine yR ?_
 refine yE rfl rfl rfl ?_
 try dsimp only [St.put]
 refine af rfl (ed rfl rfl rfl (nm n0 p) zG (by dsimp only [St.put]; omega) ?_)
 refine yX rfl rfl rfl rfl ?_
 refine yX rfl rfl rfl rfl ?_
 try dsimp only [St.put]
 refine af rfl (ed rfl rfl rfl (r9 n0 p (ju p) (cv p) o7 hL) zG (by dsimp only [St.put]; omega) ?_)
 refine yM rfl rfl ?_
 refine yX rfl rfl rfl rfl ?_
 refine yX rfl rfl rfl rfl ?_
 try dsimp only [St.put]
 refine af rfl (dx rfl ?_)
 try dsimp only [St.put]
 refine af rfl (dh rfl rfl rfl zG rfl rfl (by rfl) ?_)
 refine yA rfl rfl ?_
 refine yN ?_
 dsimp only [St.put]
 refine K2 _ ?_
 refine yS fun _ K18 => ?_
 refine yS fun _ K19 => ?_
 refine yR ?_
 refine yM rfl rfl ?_
 refine aa rfl (fl rfl rfl rfl) ?_
 refine yN ?_
 dsimp only [St.put]
 refine K19 _ ?_
 refine av rfl (fun hc => ?_) (fun hc => ?_)
 ·have hV : pa p = [] := by unfold pa; rw [li hL]
  refine yS fun _ K20 => ?_
  refine yR ?_
  refine yM rfl rfl ?_
  refine yA rfl rfl ?_
  refine yA rfl rfl ?_
  refine yN ?_
  dsimp only [St.put]
  refine K20 _ ?_
  refine ax ?_
  refine ia rfl (ef (by constructor)) (ef (by constructor)) zN zS ?_ ?_
  ·rw [hV]; exact zW
  exact zW
 exact absurd (ie hc) hL
end Go.Proofs.YtbbdginipiljdaaGreatDoor
namespace Go.Proofs.YtbbdginipiljdaaGreatDoor
set_option maxRecDepth 10000
open Go Go.RowKit Go.AB
open Go.AB.Enc (cells)
open Go.PB (ba ai PlaceD bh bj bi bw aw ah cw br dg dl)
set_option maxHeartbeats 1000000 in
theorem uhp (nF : Nat) (n : Nat) (hb : n ≤ 8) : wh nF ez Tryz.prog 89 [.elem [.v (.int .i64 (n : Int))]] (2 ^ n) (fun s => [.v (.int .i64 (s : Int)), lst (ec n s)]) := by
 refine udb Tryz.func89 rfl rfl fun I hN hcl ok hG hn => ?_
 simp only [Tryz.ntmps89, List.length_cons, List.length_nil, Nat.reduceAdd, Nat.reduceSub]
 have h256 : 2 ^ n ≤ 2 ^ 8 := Nat.pow_le_pow_right (by omega) hb
 refine kp 2 ?_
 refine zQ ?_
 refine o1 ?_
 dsimp only [FC.st]
 refine cc fun hlt => ?_
 dsimp only at hlt
 refine i3 ?_
 try dsimp only [St.put]
 first | refine ck rfl (cm rfl rfl) ?_ | refine ck rfl (e8 rfl rfl (Enc.len _)) ?_ | refine ck rfl (e8 rfl rfl rfl) ?_ | refine ck rfl (fu rfl rfl zG trivial (by first | rfl | assumption)) ?_ | refine ck rfl (i1 rfl rfl zG trivial (by rfl)) ?_ | refine ck rfl (ph rfl rfl zG trivial (by simp)) ?_ | refine ck rfl (kz rfl rfl zG trivial (py (by assumption) rfl)) ?_ | refine ck rfl (kz rfl rfl zG trivial (by assumption)) ?_ | refine ck rfl (qd rfl rfl zG trivial rfl (by assumption) rfl (by decide)) ?_ | refine ck rfl (mq rfl rfl zG (by rfl)) ?_
 refine aa rfl (ucc (n := n) rfl rfl rfl (by omega)) ?_
 refine aa rfl (fb rfl (by constructor)) ?_
 refine i4 ?_
 dsimp only [St.put]
 show j3 _ _ _ _ _ _ _
 refine o4 ok rfl ⟨rfl, rfl, zK, zN, zS, zK⟩ ?_
 refine qt ?_
 refine kp 9 ?_
 refine zQ ?_
 refine yu (X := Nat) (fun s => s ≤ 2 ^ n) (fun s => 2 ^ n - s) (fun s => [(3, .any), (4, .any), (5, .any), (8, .v (.int .i64 (s : Int)))]) (fun s => s) 0 rfl ?_ ?_ ?_ ?_ ?_
 ·exact Nat.zero_le _
 ·exact zF
 ·rfl
 ·rintro s hI
  exact zL
 ·rintro s hI
  dsimp only at hI ⊢
  refine kp 9 ?_
  refine zQ ?_
  refine o1 ?_
  dsimp only [FC.st]
  refine cc fun hlt => ?_
  dsimp only at hlt
  refine i3 ?_
  refine aa rfl (cp rfl rfl rfl) ?_
  refine i4 ?_
  dsimp only [St.put]
  show j3 _ _ _ _ _ _ _
  refine o4 ok rfl ⟨rfl, rfl, zK, zN, zS, zK⟩ ?_
  refine oz fun K1 hK1 => ?_
  refine td rfl (fun hc => ?_) (fun hc => ?_)
  ·replace hc := of_decide_eq_true hc
   have hs : s < 2 ^ n := by omega
   refine ta ?_
   refine hK1 _ _ ?_
   refine oz fun K2 hK2 => ?_
   refine qt ?_
   refine kp 9 ?_
   refine zQ ?_
   refine o1 ?_
   dsimp only [FC.st]
   refine cc fun hlt => ?_
   dsimp only at hlt
   refine i3 ?_
   refine aa rfl (fb rfl (by constructor)) ?_
   refine aa rfl (fp rfl (by constructor)) ?_
   refine i4 ?_
   dsimp only [St.put]
   show j3 _ _ _ _ _ _ _
   refine vt ?_
   refine i3 ?_
   refine aa rfl (fp rfl (by constructor)) ?_
   refine i4 ?_
   dsimp only [St.put]
   show j3 _ _ _ _ _ _ _
   refine vt ?_
   refine m9 4 3 1 rfl (by decide) ?_
   dsimp only [List.set_cons_zero, List.set_cons_succ]
   refine p5 fun K3 hK3 => ?_
   refine i3 ?_
   try dsimp only [St.put]
   first | refine ck rfl (cm rfl rfl) ?_ | refine ck rfl (e8 rfl rfl (Enc.len _)) ?_ | refine ck rfl (e8 rfl rfl rfl) ?_ | refine ck rfl (fu rfl rfl zG trivial (by first | rfl | assumption)) ?_ | refine ck rfl (i1 rfl rfl zG trivial (by rfl)) ?_ | refine ck rfl (ph rfl rfl zG trivial (by simp)) ?_ | refine ck rfl (kz rfl rfl zG trivial (py (by assumption) rfl)) ?_ | refine ck rfl (kz rfl rfl zG trivial (by assumption)) ?_ | refine ck rfl (qd rfl rfl zG trivial rfl (by assumption) rfl (by decide)) ?_ | refine ck rfl (mq rfl rfl zG (by rfl)) ?_
   refine aa rfl (fb rfl (by constructor)) ?_
   refine i4 ?_
   dsimp only [St.put]
   refine hK3 _ ?_
   refine bg ?_
   refine ct 13 ?_
   refine zQ ?_
   refine dd ((ak (I.G s) I.nx (.tip (ec 0 s).length 3 1))) zX ?_
   dsimp only
   refine dc (X := Nat) (fun k => k ≤ n) (fun k => n - k) (fun k => [(4, .list ((ec k s).map cells) (.tip I.nx)), (5, .any), (12, .v (.int .i64 (k : Int)))]) (fun k G' => (ak (I.G s) I.nx (.tip (ec k s).length 3 1))) 0 rfl ?_ ?_ ?_ ?_ ?_ ?_
   ·exact Nat.zero_le _
   ·exact zF
   ·exact zX
   ·rintro k hI
    exact zL
   ·rintro k hI
    exact zH
   ·rintro k hK
    dsimp only at hK ⊢
    refine p5 fun K4 hK4 => ?_
    refine i3 ?_
    refine aa rfl (cp rfl rfl rfl) ?_
    refine i4 ?_
    dsimp only [St.put]
    refine hK4 _ ?_
    refine p5 fun K5 hK5 => ?_
    refine av rfl (fun hc => ?_) (fun hc => ?_)
    ·replace hc := of_decide_eq_true hc
     have hml := pp k s
     refine ay ?_
     refine hK5 _ ?_
     refine p5 fun K6 hK6 => ?_
     refine bg ?_
     refine p5 fun K7 hK7 => ?_
     refine i3 ?_
     refine aa rfl (fb rfl (by constructor)) ?_
     refine aa rfl (fp rfl (by constructor)) ?_
     refine i4 ?_
     dsimp only [St.put]
     refine hK7 _ ?_
     refine p5 fun K8 hK8 => ?_
     refine i3 ?_
     refine aa rfl (fb rfl (by constructor)) ?_
     refine aa rfl (fb rfl (by constructor)) ?_
     refine aa rfl (si (m := s) (n := k) rfl rfl rfl (by show k ≤ 64; omega) (by show (s : Int) ≤ 9223372036854775807; omega) (by decide)) ?_
     refine aa rfl (sl (m := s / 2 ^ k) rfl rfl rfl (Nat.lt_of_le_of_lt (Nat.div_le_self _ _) (by show s < 2 ^ 64; omega)) (by decide)) ?_
     refine aa rfl (fm rfl rfl rfl) ?_
     refine i4 ?_
     dsimp only [St.put]
     refine hK8 _ ?_
     refine av rfl (fun hc => ?_) (fun hc => ?_)
     ·have hb1 : s.testBit k = true := bit_eq.1 (of_decide_eq_true hc)
      refine i3 ?_
      refine aa rfl (fb rfl (by constructor)) ?_
      refine aa rfl (fb rfl (by constructor)) ?_
      try dsimp only [St.put]
      refine af rfl (b9 rfl rfl rfl (by decide) (by decide) zR (by decide) ?_)
      try dsimp only [St.put]
      refine af rfl (cg ([(k : Int)]) rfl rfl zG zE rfl rfl zA ?_ zA)
      refine aa rfl (fp rfl (by constructor)) ?_
      refine i4 ?_
      dsimp only [St.put]
      refine hK6 _ ?_
      refine i3 ?_
      first | refine aa rfl (bz rfl rfl rfl (by omega)) ?_ | refine aa rfl (sn rfl rfl rfl) ?_
      refine aa rfl (fb rfl (by constructor)) ?_
      refine i4 ?_
      dsimp only [St.put]
      have e := u9 k s
      first
      | (have q : s.testBit k = true := hb1
         rw [q, cond_true] at e
         rw [← e]
         exact ⟨k + 1, by omega, by omega, ⟨⟨rfl, rfl⟩, zF, zB, zN, zX⟩⟩)
      | (have q : s.testBit k = false := hb0
         rw [q, cond_false, List.append_nil] at e
         rw [← e]
         exact ⟨k + 1, by omega, by omega, ⟨⟨rfl, rfl⟩, zF, zB, zN, zX⟩⟩)
     ·have hb0 : s.testBit k = false := by
       have := of_decide_eq_false hc
       rw [bit_eq, Bool.not_eq_true] at this
       exact this
      refine ay ?_
      refine hK6 _ ?_
      refine i3 ?_
      first | refine aa rfl (bz rfl rfl rfl (by omega)) ?_ | refine aa rfl (sn rfl rfl rfl) ?_
      refine aa rfl (fb rfl (by constructor)) ?_
      refine i4 ?_
      dsimp only [St.put]
      have e := u9 k s
      first
      | (have q : s.testBit k = true := hb1
         rw [q, cond_true] at e
         rw [← e]
         exact ⟨k + 1, by omega, by omega, ⟨⟨rfl, rfl⟩, zF, zB, zN, zX⟩⟩)
      | (have q : s.testBit k = false := hb0
         rw [q, cond_false, List.append_nil] at e
         rw [← e]
         exact ⟨k + 1, by omega, by omega, ⟨⟨rfl, rfl⟩, zF, zB, zN, zX⟩⟩)
    ·replace hc := of_decide_eq_false hc
     obtain rfl : k = n := by omega
     refine ra 4 (lst (ec k s)) rfl Wk.tok ?_
     refine c7 ?_
     show j3 _ _ _ _ _ _ _
     refine o4 ok rfl ⟨rfl, rfl, zK, zN, zS, zK⟩ ?_
     refine oz fun K9 hK9 => ?_
     refine udk ?_
     refine px rfl (fb rfl (by constructor)) ?_
     refine px rfl (fb rfl (by constructor)) ?_
     refine px rfl (fb rfl (by constructor)) ?_
     try dsimp only [St.put]
     refine udn ok (by rw [hN]; exact hs) rfl rfl rfl rfl (by rw [hcl]; rfl) ?_
     refine px rfl (d7 rfl rfl) ?_
     refine udo ?_
     dsimp only [St.put]
     refine hK9 _ _ ?_
     refine td rfl (fun h => by cases h) (fun _ => ?_)
     refine ta ?_
     refine hK2 _ _ ?_
     refine kp 9 ?_
     refine zQ ?_
     refine yr ok rfl ?_
     dsimp only [FC.st]
     refine cc fun hlt => ?_
     dsimp only at hlt
     refine i3 ?_
     first | refine aa rfl (bz rfl rfl rfl (by omega)) ?_ | refine aa rfl (sn rfl rfl rfl) ?_
     refine aa rfl (fb rfl (by constructor)) ?_
     refine i4 ?_
     dsimp only [St.put]
     refine ⟨⟨rfl, rfl, zK, zN, zS, zK⟩, ?_⟩
     exact ⟨s + 1, by omega, by omega, rfl, ⟨⟨rfl, rfl⟩, zF, zB, zN, zX⟩⟩
  ·replace hc := of_decide_eq_false hc
   obtain rfl : s = 2 ^ n := by omega
   refine yv ?_
   exact ⟨.inl rfl, rfl⟩
end Go.Proofs.YtbbdginipiljdaaGreatDoor
namespace Go.AB
open Go Go.RowKit
open Go.AB.Enc (cells)
open Go.PB (ba ai PlaceD bh bj bi bw aw ah cw br dg dl)
theorem um5 {so : Nat → Bool} {n k : Nat} : ((fj so n k).getD []).length ≤ n := by
 rcases tj so n k with ⟨h, _⟩ | ⟨b, h, k⟩
 ·rw [h]; exact Nat.zero_le _
 rw [h]
 obtain ⟨s, _, _, rfl⟩ := k.get
 exact pp n s
theorem um3 {so : Nat → Bool} {n k : Nat} (h : so k = false) : fj so n (k + 1) = fj so n k := by
 cases hb : fj so n k with
 | none => rw [uez hb, h]; rfl
 | some b => rw [zh hb, h]; rfl
theorem um6 {so : Nat → Bool} {n k : Nat} (hb : fj so n k = none) (h : so k = true) : fj so n (k + 1) = some (ec n k) := by rw [uez hb, h]; rfl
theorem um4 {so : Nat → Bool} {n k : Nat} {b : List Int} (hb : fj so n k = some b) (h : so k = true) : fj so n (k + 1) = bif gu (ec n k) b then some (ec n k) else some b := by rw [zh hb, h]; rfl
theorem uae {α : Type} {l : List α} {k : Nat} {x : α} (h : l[k]? = some x) : l.take (k + 1) = l.take k ++ [x] := by rw [List.take_add_one, h]; rfl
theorem ugc (p : ah) (l : List Int) (z : Int) : jk p (l ++ [z]) = jk p l ++ bif decide (z < (p.firsts.length : Int)) then [z] else [] := by
 unfold jk
 rw [List.filter_append]
 cases h : decide (z < (p.firsts.length : Int)) <;> simp [h]
theorem uf9 (p : ah) (l : List Int) (z : Int) : jd p (l ++ [z]) = jd p l ++ bif decide (z < (p.firsts.length : Int)) then [] else [z - (p.firsts.length : Int)] := by
 unfold jd
 rw [List.filter_append, List.map_append]
 cases h : decide (z < (p.firsts.length : Int)) <;> simp [h]
theorem uab (p : ah) (l : List Int) : (jk p l).length ≤ l.length := List.length_filter_le _ _
theorem uaa (p : ah) (l : List Int) : (jd p l).length ≤ l.length := by
 unfold jd
 rw [List.length_map]
 exact List.length_filter_le _ _
theorem ugb {p : ah} {z : Int} (h : z ∈ ep p) : 0 ≤ z ∧ z < (bt p : Int) := by
 unfold ep lx at h
 rcases tj (ng p) (bt p) (2 ^ bt p) with ⟨q, _⟩ | ⟨b, q, k⟩
 ·rw [q] at h; cases h
 rw [q] at h
 obtain ⟨s, _, _, rfl⟩ := k.get
 obtain ⟨i, rfl, hi, _⟩ := membersL_mem.1 h
 omega
end Go.AB
namespace Go.Proofs.YtbbdginipiljdaaGreatDoor
set_option maxRecDepth 10000
open Go.RowKit Go.AB
open Go.AB.Enc (cells)
open Go.PB (ba ai PlaceD bh bj bi bw aw ah cw br dg dl)
end Go.Proofs.YtbbdginipiljdaaGreatDoor
namespace Go.AB
open Go Go.RowKit
open Go.AB.Enc (cells)
open Go.PB (ba ai PlaceD bh bj bi bw aw ah cw br dg dl)
theorem um2 {so : Nat → Bool} {n k : Nat} {b : List Int} (hb : fj so n k = some b) (h : gu (ec n k) b = false) : fj so n (k + 1) = some b := by rw [zh hb, h, Bool.and_false]; rfl
theorem ue1 {p : ah} {R C : Nat → Int} (h : Bd p R C) (l : List Int) : Bd p R (jc C l) := ⟨h.r, fun j => by
 have := h.c j
 unfold jc
 cases decide ((j : Int) ∈ l)
 ·exact this
 exact ⟨Int.le_refl _, by show (0 : Int) ≤ 1000000; omega⟩, h.nr, h.np⟩
theorem umo {p : ah} {m : Int} (h : cv p ≠ 0) : jb p m = cv p := by unfold jb; rw [decide_eq_false h]; rfl
theorem umn {p : ah} {m : Int} (h : cv p = 0) (hm : m < 0) : jb p m = 2 := by unfold jb; rw [decide_eq_true h, decide_eq_true hm]; rfl
theorem ump {p : ah} {m : Int} (h : cv p = 0) (hm : ¬ m < 0) (ht : i6 p = false) : jb p m = 8 := by unfold jb; rw [decide_eq_true h, decide_eq_false hm, ht]; rfl
theorem umm {p : ah} {m : Int} (h : cv p = 0) (hm : ¬ m < 0) (ht : i6 p = true) : jb p m = 0 := by unfold jb; rw [decide_eq_true h, decide_eq_false hm, ht]; rfl
end Go.AB
namespace Go.Proofs.YtbbdginipiljdaaGreatDoor
set_option maxRecDepth 10000
open Go.RowKit Go.AB
open Go.AB.Enc (cells)
open Go.PB (ba ai PlaceD bh bj bi bw aw ah cw br dg dl)
end Go.Proofs.YtbbdginipiljdaaGreatDoor
namespace Go.AB
open Go Go.RowKit
open Go.AB.Enc (cells)
open Go.PB (ba ai PlaceD bh bj bi bw aw ah cw br dg dl)
/-- whether a set is taken, and how often one was -/
def kx (so : Nat → Bool) (n k : Nat) : Bool := so k && match fj so n k with
 | none => true
 | some b => gu (ec n k) b
def l3 (so : Nat → Bool) (n : Nat) : Nat → Nat
 | 0 => 0
 | k + 1 => l3 so n k + (kx so n k).toNat
theorem wz {so : Nat → Bool} {n k : Nat} (h : kx so n k = true) : fj so n (k + 1) = some (ec n k) ∧ l3 so n (k + 1) = l3 so n k + 1 := by
 refine ⟨?_, by show l3 so n k + (kx so n k).toNat = _; rw [h]; rfl⟩
 unfold kx at h
 rw [Bool.and_eq_true] at h
 cases hb : fj so n k with
 | none => exact um6 hb h.1
 | some b =>
  have h2 := h.2
  rw [hb] at h2
  have h3 : gu (ec n k) b = true := h2
  rw [um4 hb h.1, h3]; rfl
theorem w6 {so : Nat → Bool} {n k : Nat} (h : kx so n k = false) : fj so n (k + 1) = fj so n k ∧ l3 so n (k + 1) = l3 so n k := by
 refine ⟨?_, by show l3 so n k + (kx so n k).toNat = _; rw [h]; rfl⟩
 unfold kx at h
 cases hs : so k
 ·exact um3 hs
 rw [hs, Bool.true_and] at h
 cases hb : fj so n k with
 | none => rw [hb] at h; cases h
 | some b =>
  rw [hb] at h
  have h3 : gu (ec n k) b = false := h
  rw [um2 hb h3]
theorem ugu {so : Nat → Bool} {n k : Nat} (h : so k = false) : kx so n k = false := by unfold kx; rw [h]; rfl
theorem ugv {so : Nat → Bool} {n k : Nat} (h : so k = true) (hb : fj so n k = none) : kx so n k = true := by unfold kx; rw [h, hb]; rfl
theorem ub {so : Nat → Bool} {n k : Nat} {b : List Int} (h : so k = true) (hb : fj so n k = some b) : kx so n k = gu (ec n k) b := by unfold kx; rw [h, hb]; rfl
end Go.AB
namespace Go.Proofs.YtbbdginipiljdaaGreatDoor
set_option maxRecDepth 10000
open Go Go.RowKit Go.AB
open Go.AB.Enc (cells)
open Go.PB (ba ai PlaceD bh bj bi bw aw ah cw br dg dl)
theorem uav (m : Nat) : Pure Tryz.prog 54 [.v (.int .i64 (m : Int))] (.fn (.func 89) [.elem [.v (.int .i64 (m : Int))]]) := by
 refine c6 Tryz.func54 rfl (fun m => (.fn (co (.elem (co .v dn)) dn))) fun G nx => ?_
 simp only [Tryz.ntmps54, List.length_cons, List.length_nil, Nat.reduceAdd, Nat.reduceSub]
 refine cc fun hlt => ?_
 dsimp only at hlt
 refine yS fun _ K1 => ?_
 refine yR ?_
 try dsimp only [St.put]
 refine yB rfl rfl rfl ?_
 refine yA rfl rfl ?_
 refine yN ?_
 dsimp only [St.put]
 refine K1 _ ?_
 refine yS fun _ K2 => ?_
 refine yR ?_
 refine aa rfl (po rfl rfl) ?_
 refine yA rfl rfl ?_
 refine yN ?_
 dsimp only [St.put]
 refine K2 _ ?_
 refine ax ?_
 refine bf rfl (by constructor) zN zS ?_
 rfl
set_option maxHeartbeats 1000000 in
theorem udv (n : Nat) (m : Nat) (so : Nat → Bool) (k0 : FuncId) (caps : List C) [Fun Tryz.prog k0] (hm : m ≤ 8) (hcl : ∀ N, ∀ c ∈ caps, C.low N c) (hso : ∀ s : Nat, s < 2 ^ m → AB.Pure Tryz.prog k0 (.v (.int .i64 (s : Int)) :: lst (ec m s) :: caps) (.v (.bool (so s)))) : fa n ez Tryz.prog 53 [.fn (.func 89) [.elem [.v (.int .i64 (m : Int))]], .fn (.func k0) caps, .fn (.func 57) []] (lst (lx so m)) := fun G nx hF hnx => by
 refine ij (G) (nx) Tryz.func53 rfl ((ca _ _)) zN (fun hlt => zH) ?_
 simp only [Tryz.ntmps53, List.length_cons, List.length_nil, Nat.reduceAdd, Nat.reduceSub]
 refine cc fun hlt => ?_
 dsimp only at hlt
 refine yS fun _ K1 => ?_
 refine yR ?_
 try dsimp only [St.put]
 refine yB rfl rfl rfl ?_
 try dsimp only [St.put]
 refine yB rfl rfl rfl ?_
 refine yA rfl rfl ?_
 refine yN ?_
 dsimp only [St.put]
 refine K1 _ ?_
 refine yS fun _ K2 => ?_
 refine yR ?_
 try dsimp only [St.put]
 refine af rfl (dx rfl ?_)
 refine yN ?_
 dsimp only [St.put]
 refine K2 _ ?_
 refine yS fun _ K3 => ?_
 refine yR ?_
 try dsimp only [St.put]
 refine af rfl (dx rfl ?_)
 try dsimp only [St.put]
 refine af rfl (dh rfl rfl rfl zG rfl rfl (by rfl) ?_)
 refine yN ?_
 dsimp only [St.put]
 refine K3 _ ?_
 refine yS fun _ K4 => ?_
 refine yS fun _ K5 => ?_
 refine v7 nx 0 [lst ([] : List Int)] zG zW ?_
 refine yR ?_
 refine yM rfl rfl ?_
 refine yN ?_
 dsimp only [St.put]
 refine K5 _ ?_
 refine bg ?_
 refine ct 12 ?_
 refine zQ ?_
 refine dd ((ak (ak G nx (.box (l3 so m 0) [lst ((fj so m 0).getD [])])) (nx + 1) (.box (1 + l3 so m 0) [.v (.bool (fj so m 0).isSome)]))) zX ?_
 dsimp only
 refine ue3 [12, 13] (fun k => (ak (ak G nx (.box (l3 so m k) [lst ((fj so m k).getD [])])) (nx + 1) (.box (1 + l3 so m k) [.v (.bool (fj so m k).isSome)]))) (fun k => [(13, lst (ec m k)), (12, .v (.int .i64 (k : Int)))]) (uhp n m hm) (fun k => zG) (by (try dsimp only); omega) rfl rfl (fun _ => rfl) ?_ ?_ ?_ (fun lr k hrk => ?_) ?_
 ·intro k
  rfl
 ·exact zX
 ·intro k
  exact zH
 ·have hbl := um5 (so := so) (n := m) (k := k)
  have hml := pp m k
  refine yS fun _ K6 => ?_
  refine yR ?_
  refine yA rfl rfl ?_
  refine yN ?_
  dsimp only [St.put]
  refine K6 _ ?_
  refine yR ?_
  refine yA rfl rfl ?_
  refine yN ?_
  dsimp only [St.put]
  show AW _ _ _ _ _
  refine bg ?_
  refine yS fun _ K7 => ?_
  refine yR ?_
  refine yL rfl rfl rfl ?_
  refine yM rfl rfl ?_
  refine yM rfl rfl ?_
  try dsimp only [St.put]
  refine af rfl (bc rfl rfl rfl (hso k hrk) ?_)
  refine yM rfl rfl ?_
  refine ff (fun hs => ?_) (fun hs => ?_)
  ·have hw : so k = true := hs
   try dsimp only [St.put]
   refine ck rfl (fu rfl rfl zG trivial (by first | rfl | assumption)) ?_
   refine aa rfl (d7 rfl rfl) ?_
   refine yM rfl rfl ?_
   refine ff (fun hs => ?_) (fun hs => ?_)
   ·have hb0 : fj so m k = none := by simpa using hs
    have htk := wz (ugv hw hb0)
    refine yK rfl ?_
    refine yK rfl ?_
    refine yK rfl ?_
    refine yK rfl ?_
    refine yK rfl ?_
    refine aa rfl (ci rfl rfl (by constructor)) ?_
    refine aa rfl (ci rfl rfl (by constructor)) ?_
    refine yN ?_
    dsimp only [St.put]
    refine K7 _ ?_
    refine av rfl (fun _ => ?_) (fun h => by cases h)
    first
    | (have hbf : gu (ec m k) b = true := (ui _ _).symm.trans hc
       have htk := wz ((ub hw hb0).trans hbf))
    | skip
    refine yR ?_
    refine yM rfl rfl ?_
    try dsimp only [St.put]
    refine af rfl (dh rfl rfl rfl zG rfl rfl (by rfl) ?_)
    try dsimp only [St.put]
    refine af rfl (dh rfl rfl rfl zG rfl rfl (by rfl) ?_)
    refine yN ?_
    dsimp only [St.put]
    dsimp only [ri, tu]
    first
    | (rw [htk.1, htk.2]
       exact zX)
    | (rw [hke.1, hke.2]
       try rw [hb0]
       exact zX)
   obtain ⟨b, hb0⟩ : ∃ b, fj so m k = some b := by
     cases hb : fj so m k with
     | none => rw [hb] at hs; cases hs
     | some b => exact ⟨b, rfl⟩
   rw [hb0] at hbl
   rw [hb0]
   have hbl2 : b.length ≤ m := hbl
   refine yL rfl rfl rfl ?_
   refine yM rfl rfl ?_
   try dsimp only [St.put]
   refine ck rfl (fu rfl rfl zG trivial (by first | rfl | assumption)) ?_
   try dsimp only [St.put]
   refine af rfl (bc rfl rfl rfl (ui2 (ec m k) b (by omega) (by omega)) ?_)
   refine aa rfl (cp rfl rfl rfl) ?_
   refine aa rfl (c5 rfl rfl (by constructor)) ?_
   refine aa rfl (ci rfl rfl (by constructor)) ?_
   refine yN ?_
   dsimp only [St.put]
   refine K7 _ ?_
   refine av rfl (fun hc => ?_) (fun hc => ?_)
   ·first
    | (have hbf : gu (ec m k) b = true := (ui _ _).symm.trans hc
       have htk := wz ((ub hw hb0).trans hbf))
    | skip
    refine yR ?_
    refine yM rfl rfl ?_
    try dsimp only [St.put]
    refine af rfl (dh rfl rfl rfl zG rfl rfl (by rfl) ?_)
    try dsimp only [St.put]
    refine af rfl (dh rfl rfl rfl zG rfl rfl (by rfl) ?_)
    refine yN ?_
    dsimp only [St.put]
    dsimp only [ri, tu]
    first
    | (rw [htk.1, htk.2]
       exact zX)
    | (rw [hke.1, hke.2]
       try rw [hb0]
       exact zX)
   first
   | (have hbf : gu (ec m k) b = false := (ui _ _).symm.trans hc
      have hke := w6 ((ub hw hb0).trans hbf))
   | skip
   refine ay ?_
   dsimp only [ri, tu]
   first
   | (rw [htk.1, htk.2]
      exact zX)
   | (rw [hke.1, hke.2]
      try rw [hb0]
      exact zX)
  have hw : so k = false := hs
  have hke := w6 (ugu (n := m) hw)
  refine yK rfl ?_
  refine yK rfl ?_
  refine yK rfl ?_
  refine yK rfl ?_
  refine yK rfl ?_
  refine yK rfl ?_
  refine yK rfl ?_
  refine yK rfl ?_
  refine yK rfl ?_
  refine aa rfl (c5 rfl rfl (by constructor)) ?_
  refine yN ?_
  dsimp only [St.put]
  refine K7 _ ?_
  refine av rfl (fun h => by cases h) (fun _ => ?_)
  first
  | (have hbf : gu (ec m k) b = false := (ui _ _).symm.trans hc
     have hke := w6 ((ub hw hb0).trans hbf))
  | skip
  refine ay ?_
  dsimp only [ri, tu]
  first
  | (rw [htk.1, htk.2]
     exact zX)
  | (rw [hke.1, hke.2]
     try rw [hb0]
     exact zX)
 dsimp only
 refine K4 _ ?_
 refine yS fun _ K8 => ?_
 refine yR ?_
 try dsimp only [St.put]
 refine ck rfl (fu rfl rfl zG trivial (by first | rfl | assumption)) ?_
 refine yA rfl rfl ?_
 refine yN ?_
 dsimp only [St.put]
 refine K8 _ ?_
 refine ax ?_
 refine bf rfl (by constructor) zN zS ?_
 rfl
theorem ui0 (p : ah) (R C : Nat → Int) (a : Int) (s : Nat) (l : List Int) (h : eg p) (hB : Bd p R C) (hs : s ≤ 1000) : Pure Tryz.prog 55 [.v (.int .i64 (s : Int)), lst l, .elem (cells (gl p R C)), .elem [.v (.int .i64 a)]] (.v (.bool (decide ((bu p).f R C (fun i => s.testBit i) = a)))) := by
 refine c6 Tryz.func55 rfl (fun m => .v) fun G nx => ?_
 simp only [Tryz.ntmps55, List.length_cons, List.length_nil, Nat.reduceAdd, Nat.reduceSub]
 refine cc fun hlt => ?_
 dsimp only at hlt
 refine yS fun _ K1 => ?_
 refine yR ?_
 refine yA rfl rfl ?_
 refine yN ?_
 dsimp only [St.put]
 refine K1 _ ?_
 refine yS fun _ K2 => ?_
 refine g7 [(0, none), (1, none), (3, none), (2, none), (4, none), (5, none)] (fun i => [].contains i) (fun i => [2].contains i) (fun i => [1, 4, 5].contains i) [] (by kernel_rfl) (by kernel_rfl) ?_
 try dsimp only [St.put]
 refine bd rfl rfl rfl rfl (e8 rfl rfl (Enc.len _)) ?_
 refine xM rfl rfl rfl rfl rfl ?_
 try dsimp only [St.put]
 refine bd rfl rfl rfl rfl (cm rfl rfl) ?_
 refine jo ?_
 try dsimp only [St.put]
 refine ka rfl rfl rfl (bc rfl rfl rfl (ubr p R C s h hB hs) ⟨zD, ?_⟩)
 refine c8 rfl rfl rfl rfl (fm rfl rfl rfl) ?_
 refine c8 rfl rfl rfl rfl (fp rfl (by constructor)) ?_
 refine ji ?_
 dsimp only [St.put]
 refine K2 _ ?_
 refine ax ?_
 refine bf rfl (by constructor) zN zS ?_
 rfl
theorem uja (p : ah) (m : Int) (s : Int) (l : List Int) (h : eg p) (hl : l.length ≤ 1000) (hm : ∀ z ∈ l, 0 ≤ z ∧ z < (p.pages.length : Int)) : Pure Tryz.prog 78 [.v (.int .i64 s), lst l, .elem (cells (gl p (c4 p) (di p))), .elem [.v (.int .i64 m)]] (.v (.bool (decide (ufg p l ≤ m)))) := by
 refine c6 Tryz.func78 rfl (fun m => .v) fun G nx => ?_
 simp only [Tryz.ntmps78, List.length_cons, List.length_nil, Nat.reduceAdd, Nat.reduceSub]
 refine cc fun hlt => ?_
 dsimp only at hlt
 refine yS fun _ K1 => ?_
 refine yR ?_
 refine yA rfl rfl ?_
 refine yN ?_
 dsimp only [St.put]
 refine K1 _ ?_
 refine yS fun _ K2 => ?_
 refine yR ?_
 refine yE rfl rfl rfl ?_
 try dsimp only [St.put]
 refine af rfl (dx rfl ?_)
 try dsimp only [St.put]
 refine af rfl (dh rfl rfl rfl zG rfl rfl (by rfl) ?_)
 refine yN ?_
 dsimp only [St.put]
 rw [show cells (gl p (c4 p) (di p)) = cells (gl p (c4 p) (jc (di p) (l.take 0))) by rw [List.take_zero, wl]]
 refine K2 _ ?_
 refine yS fun _ K3 => ?_
 refine yS fun _ K4 => ?_
 refine yR ?_
 refine yM rfl rfl ?_
 refine aa rfl (bp rfl rfl (List.length_map _)) ?_
 refine yM rfl rfl ?_
 refine yN ?_
 dsimp only [St.put]
 refine K4 _ ?_
 refine bg ?_
 refine ct 14 ?_
 refine zQ ?_
 refine dd ((ak G nx (.box (0 + 1) (cells (gl p (c4 p) (jc (di p) (l.take 0))))))) zX ?_
 dsimp only
 refine dc (X := Nat) (fun k => k ≤ l.length) (fun k => l.length - k) (fun k => [(8, .any), (9, .any), (13, .v (.int .i64 (k : Int)))]) (fun k G' => (ak G nx (.box (k + 1) (cells (gl p (c4 p) (jc (di p) (l.take k))))))) 0 rfl ?_ ?_ ?_ ?_ ?_ ?_
 ·exact Nat.zero_le _
 ·exact zF
 ·exact zX
 ·rintro k hI
  exact zL
 ·rintro k hI
  exact zH
 rintro k hI
 dsimp only at hI ⊢
 refine yS fun _ K5 => ?_
 refine yR ?_
 refine aa rfl (cp rfl rfl rfl) ?_
 refine yN ?_
 dsimp only [St.put]
 refine K5 _ ?_
 refine yS fun _ K6 => ?_
 refine av rfl (fun hc => ?_) (fun hc => ?_)
 ·replace hc := of_decide_eq_true hc
  obtain ⟨z0, hz0⟩ : ∃ z, l[k]? = some z := dp (by omega)
  have hzb := hm z0 (gd hz0)
  obtain ⟨j, rfl⟩ : ∃ j : Nat, z0 = (j : Int) := ⟨z0.toNat, by omega⟩
  have hz := hz0
  obtain ⟨x, hx⟩ : ∃ x, p.pages[j]? = some x := dp (by omega)
  have hB := ue1 (tn h) (l.take k)
  refine ay ?_
  refine K6 _ ?_
  refine yS fun _ K7 => ?_
  refine bg ?_
  refine yS fun _ K8 => ?_
  refine yR ?_
  refine aa rfl (bx rfl rfl rfl rfl (bv (by assumption)) (Enc.len _)) ?_
  refine yL rfl rfl rfl ?_
  refine yA rfl rfl ?_
  refine yN ?_
  dsimp only [St.put]
  refine K8 _ ?_
  refine yR ?_
  try dsimp only [St.put]
  refine ck rfl (i1 rfl rfl zG trivial (by rfl)) ?_
  refine yM rfl rfl ?_
  try dsimp only [St.put]
  refine af rfl (bc rfl rfl rfl (xp p (c4 p) (jc (di p) (l.take k)) j x 0 h hx (by omega) hB.r) ?_)
  try dsimp only [St.put]
  refine af rfl (dh rfl rfl rfl zG rfl rfl (by rfl) ?_)
  refine yN ?_
  dsimp only [St.put]
  refine K7 _ ?_
  refine yR ?_
  refine aa rfl (bz rfl rfl rfl (by omega)) ?_
  refine yM rfl rfl ?_
  refine yN ?_
  dsimp only [St.put]
  rw [uko, ← ufo, ← uae hz]
  exact ⟨k + 1, by omega, by omega, ⟨⟨rfl, rfl⟩, zF, zB, zN, zX⟩⟩
 replace hc := of_decide_eq_false hc
 rw [f8 (show l.length ≤ k by omega)]
 refine c7 ?_
 refine K3 _ ?_
 refine yS fun _ K9 => ?_
 refine g7 [(0, none), (2, none), (1, none), (3, none), (4, none)] (fun i => [].contains i) (fun i => [1].contains i) (fun i => [3, 4].contains i) [nx] (by kernel_rfl) (by kernel_rfl) ?_
 try dsimp only [St.put]
 refine bd rfl rfl rfl rfl (i1 rfl rfl zG (by simp) (by rfl)) ?_
 try dsimp only [St.put]
 refine bd rfl rfl rfl rfl (cm rfl rfl) ?_
 refine jo ?_
 try dsimp only [St.put]
 refine ka rfl rfl rfl (bc rfl rfl rfl (sb p (c4 p) (jc (di p) l) h (ue1 (tn h) l)) ⟨zD, ?_⟩)
 refine c8 rfl rfl rfl rfl (sj rfl rfl rfl) ?_
 refine c8 rfl rfl rfl rfl (fp rfl (by constructor)) ?_
 refine ji ?_
 dsimp only [St.put]
 refine K9 _ ?_
 refine ax ?_
 refine bf rfl (by constructor) zN zS ?_
 rfl
theorem ua8 (p : ah) (R Q : Nat → Int) (a : Int) (N : Nat) : ∀ c ∈ [C.elem (cells (gl p R Q)), C.elem [C.v (.int .i64 a)]], C.low N c := co (fq _ _) (co (.elem (co .v dn)) dn)
set_option maxHeartbeats 1000000 in
theorem xq (n : Nat) (p : ah) : fa n ez Tryz.prog 17 [val p] (.tup [lst (atE (fo p (cv p)) [] (jk p (ep p))), lst (atE (fo p (cv p)) [] (jd p (ep p))), .v (.int .i64 (fo p (cv p)))]) := fun G nx hF hnx => by
 refine ij (G) (nx) Tryz.func17 rfl (.tup (co (ca _ _) (co (ca _ _) (co .v dn)))) zN (fun hlt => zH) ?_
 simp only [Tryz.ntmps17, List.length_cons, List.length_nil, Nat.reduceAdd, Nat.reduceSub]
 refine cc fun hlt => ?_
 dsimp only at hlt
 refine yS fun _ K1 => ?_
 refine yR ?_
 try dsimp only [St.put]
 refine yB rfl rfl rfl ?_
 refine yA rfl rfl ?_
 refine yA rfl rfl ?_
 refine yA rfl rfl ?_
 refine yN ?_
 dsimp only [St.put]
 refine K1 _ ?_
 refine yS fun _ K2 => ?_
 by_cases hL : fo p (cv p) = 0
 ·refine yR ?_
  refine yE rfl rfl rfl ?_
  try dsimp only [St.put]
  refine af rfl (ed rfl rfl rfl (nm n p) zG (by dsimp only [St.put]; omega) ?_)
  refine yX rfl rfl rfl rfl ?_
  refine yX rfl rfl rfl rfl ?_
  try dsimp only [St.put]
  refine af rfl (ed rfl rfl rfl (r8 n p (ju p) (cv p) o7 hL) zG (by dsimp only [St.put]; omega) ?_)
  refine yM rfl rfl ?_
  refine yX rfl rfl rfl rfl ?_
  refine yX rfl rfl rfl rfl ?_
  try dsimp only [St.put]
  refine af rfl (dx rfl ?_)
  try dsimp only [St.put]
  refine af rfl (dh rfl rfl rfl zG rfl rfl (by rfl) ?_)
  refine yA rfl rfl ?_
  refine yN ?_
  dsimp only [St.put]
  refine K2 _ ?_
  refine yS fun _ K3 => ?_
  refine yS fun _ K4 => ?_
  refine yR ?_
  refine yM rfl rfl ?_
  refine aa rfl (fl rfl rfl rfl) ?_
  refine yN ?_
  dsimp only [St.put]
  refine K4 _ ?_
  refine av rfl (fun hc => ?_) (fun hc => ?_)
  ·exact absurd hc (by decide)
  obtain ⟨h0, hTB⟩ := sw hL
  obtain ⟨hok, _⟩ := lg h0
  have hn1 := hok.nf
  have hn2 := hok.ns
  have hnr : bt p = p.firsts.length + p.seconds.length := rfl
  have hl1 := g3 (bt p) (c4 p)
  have hB := tn hok
  have h64 : 2 ^ bt p ≤ 2 ^ 6 := Nat.pow_le_pow_right (by omega) (by omega)
  have hwl : (ep p).length ≤ 6 := by
   have := zi (ng p) (bt p)
   show (lx (ng p) (bt p)).length ≤ 6
   omega
  refine ay ?_
  refine K3 _ ?_
  refine yS fun _ K5 => ?_
  refine yR ?_
  try dsimp only [St.put]
  refine ck rfl (i1 rfl rfl zG trivial (by rfl)) ?_
  try dsimp only [St.put]
  refine af rfl (bc rfl rfl rfl (sb p (c4 p) (di p) hok hB) ?_)
  try dsimp only [St.put]
  refine af rfl (dx rfl ?_)
  try dsimp only [St.put]
  refine af rfl (dh rfl rfl rfl zG rfl rfl (by rfl) ?_)
  refine yN ?_
  dsimp only [St.put]
  refine K5 _ ?_
  refine gh (i := 5) rfl zG zC ?_
  refine gh (i := 6) rfl zG zC ?_
  dsimp only
  refine yS fun _ K6 => ?_
  refine yS fun _ K7 => ?_
  refine yR ?_
  refine yF rfl rfl rfl rfl ?_
  refine yL rfl rfl rfl ?_
  refine aa rfl (bp rfl rfl (List.length_map _)) ?_
  try dsimp only [St.put]
  refine af rfl (bc rfl rfl rfl (uav (bn (bt p) (c4 p)).length) ?_)
  refine aa rfl (po rfl rfl) ?_
  try dsimp only [St.put]
  refine af rfl (ed rfl rfl rfl (udv n (bn (bt p) (c4 p)).length (ng p) 55 [.elem (cells (gl p (c4 p) (di p))), .elem [.v (.int .i64 ((bu p).most (c4 p) (di p)))]] (by rw [hl1]; omega) (ua8 p _ _ _) (fun s hs => ui0 p (c4 p) (di p) _ s _ hok hB (by rw [hl1] at hs; omega))) zG (by dsimp only [St.put]; omega) ?_)
  refine aa rfl (bp rfl rfl (List.length_map _)) ?_
  refine yM rfl rfl ?_
  refine yN ?_
  dsimp only [St.put]
  rw [hl1, show lx (ng p) (bt p) = ep p from rfl]
  refine K7 _ ?_
  refine m9 2 3 1 rfl (by decide) ?_
  refine m9 3 3 1 rfl (by decide) ?_
  dsimp only [List.set_cons_zero, List.set_cons_succ]
  refine bg ?_
  refine ct 30 ?_
  refine zQ ?_
  refine dd ((ak (ak G (nx + 1 + 1) (.tip (jk p ((ep p).take 0)).length 3 1)) (nx + 1 + 1 + 1) (.tip (jd p ((ep p).take 0)).length 3 1))) zX ?_
  dsimp only
  refine dc (X := Nat) (fun k => k ≤ (ep p).length) (fun k => (ep p).length - k) (fun k => [(2, .list ((jk p ((ep p).take k)).map cells) (.tip (nx + 1 + 1))), (3, .list ((jd p ((ep p).take k)).map cells) (.tip (nx + 1 + 1 + 1))), (8, .any), (29, .v (.int .i64 (k : Int)))]) (fun k G' => (ak (ak G (nx + 1 + 1) (.tip (jk p ((ep p).take k)).length 3 1)) (nx + 1 + 1 + 1) (.tip (jd p ((ep p).take k)).length 3 1))) 0 rfl ?_ ?_ ?_ ?_ ?_ ?_
  ·exact Nat.zero_le _
  ·exact zF
  ·exact zX
  ·rintro k hI
   exact zL
  ·rintro k hI
   exact zH
  rintro k hK
  dsimp only at hK ⊢
  refine yS fun _ K8 => ?_
  refine yR ?_
  refine aa rfl (cp rfl rfl rfl) ?_
  refine yN ?_
  dsimp only [St.put]
  refine K8 _ ?_
  refine yS fun _ K9 => ?_
  refine av rfl (fun hc => ?_) (fun hc => ?_)
  ·replace hc := of_decide_eq_true hc
   obtain ⟨z, hz⟩ : ∃ z, (ep p)[k]? = some z := dp (by omega)
   have hzb := ugb (gd hz)
   have hF3 := ugc p ((ep p).take k) z
   have hS3 := uf9 p ((ep p).take k) z
   rw [← uae hz] at hF3 hS3
   have hlF := uab p ((ep p).take k)
   have hlS := uaa p ((ep p).take k)
   have hlt2 : ((ep p).take k).length ≤ 6 := by rw [List.length_take]; omega
   refine ay ?_
   refine K9 _ ?_
   refine yS fun _ K10 => ?_
   refine bg ?_
   refine yS fun _ K11 => ?_
   refine yR ?_
   refine aa rfl (bx rfl rfl rfl rfl (bv (by assumption)) (Enc.len _)) ?_
   refine yL rfl rfl rfl ?_
   refine yA rfl rfl ?_
   refine yN ?_
   dsimp only [St.put]
   refine K11 _ ?_
   refine yS fun _ K12 => ?_
   refine yR ?_
   refine yM rfl rfl ?_
   refine yF rfl rfl rfl rfl ?_
   refine yL rfl rfl rfl ?_
   refine aa rfl (bp rfl rfl (List.length_map _)) ?_
   refine aa rfl (cp rfl rfl rfl) ?_
   refine yN ?_
   dsimp only [St.put]
   refine K12 _ ?_
   refine av rfl (fun hc => ?_) (fun hc => ?_)
   ·have hyes := of_decide_eq_true hc
    refine yR ?_
    refine yM rfl rfl ?_
    refine yM rfl rfl ?_
    try dsimp only [St.put]
    refine af rfl (b9 rfl rfl rfl (by decide) (by decide) zR (by decide) ?_)
    try dsimp only [St.put]
    refine af rfl (cg ([z]) rfl rfl zG zE rfl rfl zA ?_ zA)
    refine yA rfl rfl ?_
    refine yN ?_
    dsimp only [St.put]
    refine K10 _ ?_
    refine yR ?_
    refine aa rfl (bz rfl rfl rfl (by omega)) ?_
    refine yM rfl rfl ?_
    refine yN ?_
    dsimp only [St.put]
    first
    | (have hy2 : z < (p.firsts.length : Int) := hyes
       rw [decide_eq_true hy2, cond_true] at hF3 hS3
       rw [List.append_nil] at hS3
       simp only [← hF3]
       rw [← hS3]
       exact ⟨k + 1, by omega, by omega, ⟨⟨rfl, rfl⟩, zF, zB, zN, zX⟩⟩)
    | (have hy2 : ¬ z < (p.firsts.length : Int) := hno
       rw [decide_eq_false hy2, cond_false] at hF3 hS3
       rw [List.append_nil] at hF3
       simp only [← hS3]
       rw [← hF3]
       exact ⟨k + 1, by omega, by omega, ⟨⟨rfl, rfl⟩, zF, zB, zN, zX⟩⟩)
   have hno := of_decide_eq_false hc
   refine yR ?_
   refine yM rfl rfl ?_
   refine yM rfl rfl ?_
   refine yF rfl rfl rfl rfl ?_
   refine yL rfl rfl rfl ?_
   refine aa rfl (bp rfl rfl (List.length_map _)) ?_
   refine aa rfl (gt rfl rfl rfl (by omega)) ?_
   try dsimp only [St.put]
   refine af rfl (b9 rfl rfl rfl (by decide) (by decide) zR (by decide) ?_)
   try dsimp only [St.put]
   refine af rfl (cg ([z - (p.firsts.length : Int)]) rfl rfl zG zE rfl rfl zA ?_ zA)
   refine yA rfl rfl ?_
   refine yN ?_
   dsimp only [St.put]
   refine K10 _ ?_
   refine yR ?_
   refine aa rfl (bz rfl rfl rfl (by omega)) ?_
   refine yM rfl rfl ?_
   refine yN ?_
   dsimp only [St.put]
   first
   | (have hy2 : z < (p.firsts.length : Int) := hyes
      rw [decide_eq_true hy2, cond_true] at hF3 hS3
      rw [List.append_nil] at hS3
      simp only [← hF3]
      rw [← hS3]
      exact ⟨k + 1, by omega, by omega, ⟨⟨rfl, rfl⟩, zF, zB, zN, zX⟩⟩)
   | (have hy2 : ¬ z < (p.firsts.length : Int) := hno
      rw [decide_eq_false hy2, cond_false] at hF3 hS3
      rw [List.append_nil] at hF3
      simp only [← hS3]
      rw [← hF3]
      exact ⟨k + 1, by omega, by omega, ⟨⟨rfl, rfl⟩, zF, zB, zN, zX⟩⟩)
  replace hc := of_decide_eq_false hc
  refine c7 ?_
  refine K6 _ ?_
  refine yS fun _ K13 => ?_
  refine yR ?_
  refine yM rfl rfl ?_
  refine yM rfl rfl ?_
  refine yA rfl rfl ?_
  refine yA rfl rfl ?_
  refine yA rfl rfl ?_
  refine yN ?_
  dsimp only [St.put]
  refine K13 _ ?_
  refine ax ?_
  refine ud4 rfl (ef (by constructor)) (ef (by constructor)) (ef (by constructor)) zN zS ?_ ?_ ?_
  ·rw [hL, na, f8 (show (ep p).length ≤ k by omega)]; exact zW
  ·rw [hL, na, f8 (show (ep p).length ≤ k by omega)]; exact zW
  rw [hL]; exact zW
 refine yR ?_
 refine yE rfl rfl rfl ?_
 try dsimp only [St.put]
 refine af rfl (ed rfl rfl rfl (nm n p) zG (by dsimp only [St.put]; omega) ?_)
 refine yX rfl rfl rfl rfl ?_
 refine yX rfl rfl rfl rfl ?_
 try dsimp only [St.put]
 refine af rfl (ed rfl rfl rfl (r9 n p (ju p) (cv p) o7 hL) zG (by dsimp only [St.put]; omega) ?_)
 refine yM rfl rfl ?_
 refine yX rfl rfl rfl rfl ?_
 refine yX rfl rfl rfl rfl ?_
 try dsimp only [St.put]
 refine af rfl (dx rfl ?_)
 try dsimp only [St.put]
 refine af rfl (dh rfl rfl rfl zG rfl rfl (by rfl) ?_)
 refine yA rfl rfl ?_
 refine yN ?_
 dsimp only [St.put]
 refine K2 _ ?_
 refine yS fun _ K14 => ?_
 refine yS fun _ K15 => ?_
 refine yR ?_
 refine yM rfl rfl ?_
 refine aa rfl (fl rfl rfl rfl) ?_
 refine yN ?_
 dsimp only [St.put]
 refine K15 _ ?_
 refine av rfl (fun hc => ?_) (fun hc => ?_)
 ·try replace hc := of_decide_eq_true hc
  refine yS fun _ K16 => ?_
  refine yR ?_
  refine yM rfl rfl ?_
  refine yA rfl rfl ?_
  refine yA rfl rfl ?_
  refine yA rfl rfl ?_
  refine yN ?_
  dsimp only [St.put]
  refine K16 _ ?_
  refine ax ?_
  refine ud4 rfl (ef (by constructor)) (ef (by constructor)) (ef (by constructor)) zN zS ?_ ?_ ?_
  ·rw [li hL]; exact zW
  ·rw [li hL]; exact zW
  exact zW
 exact absurd (ie hc) hL
set_option maxHeartbeats 1000000 in
theorem ui9 (n : Nat) (p : ah) (m : Int) : fa n ez Tryz.prog 35 [val p, .v (.int .i64 m)] (.tup [lst (j8 p m), .v (.int .i64 (jb p m))]) := fun G nx hF hnx => by
 refine ij (G) (nx) Tryz.func35 rfl (.tup (co (ca _ _) (co .v dn))) zN (fun hlt => zH) ?_
 simp only [Tryz.ntmps35, List.length_cons, List.length_nil, Nat.reduceAdd, Nat.reduceSub]
 refine cc fun hlt => ?_
 dsimp only at hlt
 refine yS fun _ K1 => ?_
 refine yR ?_
 try dsimp only [St.put]
 refine yB rfl rfl rfl ?_
 try dsimp only [St.put]
 refine yB rfl rfl rfl ?_
 refine yA rfl rfl ?_
 refine yA rfl rfl ?_
 refine yN ?_
 dsimp only [St.put]
 refine K1 _ ?_
 refine yS fun _ K2 => ?_
 refine yR ?_
 refine yE rfl rfl rfl ?_
 try dsimp only [St.put]
 refine af rfl (ed rfl rfl rfl (nm n p) zG (by dsimp only [St.put]; omega) ?_)
 refine yM rfl rfl ?_
 refine yX rfl rfl rfl rfl ?_
 refine yX rfl rfl rfl rfl ?_
 refine yA rfl rfl ?_
 refine yA rfl rfl ?_
 refine yN ?_
 dsimp only [St.put]
 refine K2 _ ?_
 refine yS fun _ K3 => ?_
 refine yS fun _ K4 => ?_
 refine yR ?_
 refine yM rfl rfl ?_
 refine aa rfl (fl rfl rfl rfl) ?_
 refine yN ?_
 dsimp only [St.put]
 refine K4 _ ?_
 refine av rfl (fun hc => ?_) (fun hc => ?_)
 ·have h0 : cv p ≠ 0 := jl hc
  have hE : jb p m = cv p := umo h0
  have hV : j8 p m = [] := by unfold j8; rw [hE, li h0]
  refine yS fun _ K5 => ?_
  refine yR ?_
  refine yM rfl rfl ?_
  refine yA rfl rfl ?_
  refine yA rfl rfl ?_
  refine yN ?_
  dsimp only [St.put]
  refine K5 _ ?_
  refine ax ?_
  refine ia rfl (ef (by constructor)) (ef (by constructor)) zN zS ?_ ?_
  ·rw [hV]; exact zW
  rw [hE]; exact zW
 have h0 : cv p = 0 := ie hc
 obtain ⟨hok, _⟩ := lg h0
 have hnp := hok.np
 refine ay ?_
 refine K3 _ ?_
 refine yS fun _ K6 => ?_
 refine yS fun _ K7 => ?_
 refine yR ?_
 refine yL rfl rfl rfl ?_
 refine aa rfl (cp rfl rfl rfl) ?_
 refine yN ?_
 dsimp only [St.put]
 refine K7 _ ?_
 refine av rfl (fun hc => ?_) (fun hc => ?_)
 ·have hm : m < 0 := of_decide_eq_true hc
  have hE : jb p m = 2 := umn h0 hm
  have hV : j8 p m = [] := by unfold j8; rw [hE, li (by decide)]
  refine yS fun _ K8 => ?_
  refine yR ?_
  refine yA rfl rfl ?_
  refine yA rfl rfl ?_
  refine yN ?_
  dsimp only [St.put]
  refine K8 _ ?_
  refine ax ?_
  refine ia rfl (ef (by constructor)) (ef (by constructor)) zN zS ?_ ?_
  ·rw [hV]; exact zW
  rw [hE]; exact zW
 have hm : ¬ m < 0 := of_decide_eq_false hc
 refine ay ?_
 refine K6 _ ?_
 refine yS fun _ K9 => ?_
 by_cases hL : fo p (cv p) = 0
 ·refine yR ?_
  refine yM rfl rfl ?_
  refine yM rfl rfl ?_
  try dsimp only [St.put]
  refine af rfl (ed rfl rfl rfl (r8 n p (ju p) (cv p) o7 hL) zG (by dsimp only [St.put]; omega) ?_)
  refine yM rfl rfl ?_
  refine yX rfl rfl rfl rfl ?_
  refine yX rfl rfl rfl rfl ?_
  try dsimp only [St.put]
  refine af rfl (dx rfl ?_)
  try dsimp only [St.put]
  refine af rfl (dh rfl rfl rfl zG rfl rfl (by rfl) ?_)
  refine yA rfl rfl ?_
  refine yN ?_
  dsimp only [St.put]
  refine K9 _ ?_
  refine gh (i := 8) rfl zG zC ?_
  dsimp only
  refine yS fun _ K10 => ?_
  refine yS fun _ K11 => ?_
  refine yR ?_
  refine yM rfl rfl ?_
  refine aa rfl (fl rfl rfl rfl) ?_
  refine yN ?_
  dsimp only [St.put]
  refine K11 _ ?_
  refine av rfl (fun hc => ?_) (fun hc => ?_)
  ·exact absurd hc (by decide)
  have hTB := (sw hL).2
  have hE : jb p m = 0 := umm h0 hm hTB
  have hV : j8 p m = lx (ti p m) p.pages.length := by unfold j8; rw [hE, na]
  refine ay ?_
  refine K10 _ ?_
  refine yS fun _ K12 => ?_
  refine yR ?_
  refine yF rfl rfl rfl rfl ?_
  refine yL rfl rfl rfl ?_
  refine aa rfl (bp rfl rfl (List.length_map _)) ?_
  try dsimp only [St.put]
  refine af rfl (bc rfl rfl rfl (uav p.pages.length) ?_)
  refine aa rfl (po rfl rfl) ?_
  try dsimp only [St.put]
  refine af rfl (ed rfl rfl rfl (udv n p.pages.length (ti p m) 78 [.elem (cells (gl p (c4 p) (di p))), .elem [.v (.int .i64 m)]] hnp (ua8 p _ _ _) (fun s _ => uja p m s _ hok (by have := pp p.pages.length s; omega) (fun z hz => by obtain ⟨i, rfl, hi, _⟩ := membersL_mem.1 hz; omega))) zG (by dsimp only [St.put]; omega) ?_)
  refine yA rfl rfl ?_
  refine yA rfl rfl ?_
  refine yN ?_
  dsimp only [St.put]
  refine K12 _ ?_
  refine ax ?_
  refine ia rfl (ef (by constructor)) (ef (by constructor)) zN zS ?_ ?_
  ·rw [hV]; exact zW
  rw [hE]; exact zW
 refine yR ?_
 refine yM rfl rfl ?_
 refine yM rfl rfl ?_
 try dsimp only [St.put]
 refine af rfl (ed rfl rfl rfl (r9 n p (ju p) (cv p) o7 hL) zG (by dsimp only [St.put]; omega) ?_)
 refine yM rfl rfl ?_
 refine yX rfl rfl rfl rfl ?_
 refine yX rfl rfl rfl rfl ?_
 try dsimp only [St.put]
 refine af rfl (dx rfl ?_)
 try dsimp only [St.put]
 refine af rfl (dh rfl rfl rfl zG rfl rfl (by rfl) ?_)
 refine yA rfl rfl ?_
 refine yN ?_
 dsimp only [St.put]
 refine K9 _ ?_
 refine gh (i := 8) rfl zG zC ?_
 dsimp only
 refine yS fun _ K13 => ?_
 refine yS fun _ K14 => ?_
 refine yR ?_
 refine yM rfl rfl ?_
 refine aa rfl (fl rfl rfl rfl) ?_
 refine yN ?_
 dsimp only [St.put]
 refine K14 _ ?_
 refine av rfl (fun hc => ?_) (fun hc => ?_)
 ·have hTB : i6 p = false := by
   cases h : i6 p
   ·rfl
   exact absurd (by rw [h0, qp, h]; rfl) hL
  have hE : jb p m = 8 := ump h0 hm hTB
  have hV : j8 p m = [] := by unfold j8; rw [hE, li (by decide)]
  have hL8 : fo p (cv p) = 8 := by rw [h0, qp, hTB]; rfl
  refine yS fun _ K15 => ?_
  refine yR ?_
  refine yM rfl rfl ?_
  refine yA rfl rfl ?_
  refine yA rfl rfl ?_
  refine yN ?_
  dsimp only [St.put]
  refine K15 _ ?_
  refine ax ?_
  refine ia rfl (ef (by constructor)) (ef (by constructor)) zN zS ?_ ?_
  ·rw [hV]; exact zW
  rw [hE, hL8]; exact zW
 exact absurd (ie hc) hL
end Go.Proofs.YtbbdginipiljdaaGreatDoor
namespace Go.AB
open Go Go.RowKit
open Go.AB.Enc (cells)
open Go.PB (ba ai PlaceD bh bj bi bw aw ah cw br dg dl)
def qf (p : ah) : Bool := !n2 p && decide (cv p = 0)
section
variable {P : Program} {o : Oper} {st : St} {K : St → Prop}
/-- What stands in a slot is known less well, ahead of an operation. -/
theorem e_wk (i : Nat) {c : C} (c' : C) (h0 : st.at i = c) (hw : Wk c c') (h : EStep P o { st with r := (i, c') :: st.r } K) : EStep P o st K := by
 intro E w a hs
 have hp := hs.at i
 rw [h0] at hp
 refine h E w a ⟨hs.d, hs.sz, fun j v hj => ?_, hs.g⟩
 simp only [du]
 cases hb : Nat.beq i j
 ·exact hs.t j v hj
 have hij := Nat.eq_of_beq_eq_true hb
 subst hij
 have hv : a.tmps.getD i undef = v := by rw [Array.getD_eq_getD_getElem?, hj]; rfl
 rw [hv] at hp
 exact hw.2 _ _ _ hp
end
theorem lk {α : Type} [Enc α] (l : List α) : ∀ r ∈ l.map cells, r.length = Enc.n α := fun r hr => by
 obtain ⟨y, _, rfl⟩ := List.mem_map.1 hr
 exact Enc.len y
theorem readyP_true {p : ah} : qf p = true ↔ n2 p = false ∧ cv p = 0 := by simp [qf]
end Go.AB
namespace Go.Proofs.YtbbdginipiljdaaGreatDoor
set_option maxRecDepth 10000
open Go Go.RowKit Go.AB
open Go.AB.Enc (cells)
open Go.PB (ba ai PlaceD bh bj bi bw aw ah cw br dg dl)
theorem uc5 (a : List PlaceD) : Pure Tryz.prog 61 [lst a, lst a] (.v (.bool true)) := by
 have := un6 a a
 rwa [decide_eq_true rfl] at this
theorem uc6 (a : List Int) (ha : a.length ≤ 1000) : Pure Tryz.prog 19 [lst a, lst a] (.v (.bool true)) := by
 have := ubc a a ha
 rwa [decide_eq_true rfl] at this
theorem pu (a b c : Int) : Pure Tryz.prog 68 [.v (.int .i64 a), .v (.int .i64 b), .v (.int .i64 c)] (val (⟨a, b, c⟩ : PlaceD)) := by
 refine c6 Tryz.func68 rfl (fun m => (el _ _)) fun G nx => ?_
 simp only [Tryz.ntmps68, List.length_cons, List.length_nil, Nat.reduceAdd, Nat.reduceSub]
 refine cc fun hlt => ?_
 dsimp only at hlt
 refine yS fun _ K1 => ?_
 refine yR ?_
 try dsimp only [St.put]
 refine af rfl (dx rfl ?_)
 refine yN ?_
 dsimp only [St.put]
 refine K1 _ ?_
 refine yS fun _ K2 => ?_
 refine yR ?_
 refine yM rfl rfl ?_
 refine yM rfl rfl ?_
 refine yM rfl rfl ?_
 refine aa rfl (ip rfl rfl) ?_
 try dsimp only [St.put]
 refine af rfl (dh rfl rfl rfl zG rfl rfl (by rfl) ?_)
 refine yN ?_
 dsimp only [St.put]
 refine K2 _ ?_
 refine ax ?_
 refine qv rfl (j1 rfl zG (by rfl) zC rfl) zN zS ?_
 exact zW
theorem s8 (l : List PlaceD) : Pure Tryz.prog 67 [lst l] (lst l) := by
 refine c6 Tryz.func67 rfl (fun m => (ca _ _)) fun G nx => ?_
 simp only [Tryz.ntmps67, List.length_cons, List.length_nil, Nat.reduceAdd, Nat.reduceSub]
 refine cc fun hlt => ?_
 dsimp only at hlt
 refine yS fun _ K1 => ?_
 refine yR ?_
 refine yA rfl rfl ?_
 refine yN ?_
 dsimp only [St.put]
 refine K1 _ ?_
 refine yS fun _ K2 => ?_
 refine yR ?_
 refine yM rfl rfl ?_
 refine yA rfl rfl ?_
 refine yN ?_
 dsimp only [St.put]
 refine K2 _ ?_
 refine ax ?_
 refine bf rfl (by constructor) zN zS ?_
 rfl
theorem m3 : Pure Tryz.prog 63 [] (val exPr) := by
 refine c6 Tryz.func63 rfl (fun m => (el _ _)) fun G nx => ?_
 simp only [Tryz.ntmps63, List.length_cons, List.length_nil, Nat.reduceAdd, Nat.reduceSub]
 refine cc fun hlt => ?_
 dsimp only at hlt
 refine yS fun _ K1 => ?_
 refine yR ?_
 try dsimp only [St.put]
 refine af rfl (dx rfl ?_)
 refine yN ?_
 dsimp only [St.put]
 refine K1 _ ?_
 refine yS fun _ K2 => ?_
 refine yR ?_
 try dsimp only [St.put]
 refine af rfl (b9 (rows := ([mn, i5, xIs, mo] : List ByteArray).map cells) rfl rfl rfl (by decide) (by decide) (lk _) (by decide) ?_)
 try dsimp only [St.put]
 refine af rfl (b9 (rows := ([mo, mn, i5] : List ByteArray).map cells) rfl rfl rfl (by decide) (by decide) (lk _) (by decide) ?_)
 try dsimp only [St.put]
 refine af rfl (b9 (rows := ([[mn, i5, xIs, mo], [mo, mn, i5]] : List (List ByteArray)).map cells) rfl rfl rfl (by decide) (by decide) (lk _) (by decide) ?_)
 refine aa rfl (ip (cs := cells (⟨7, [[mn, i5, xIs, mo], [mo, mn, i5]]⟩ : ba)) rfl rfl) ?_
 try dsimp only [St.put]
 refine af rfl (b9 (rows := ([i5, rj, i5] : List ByteArray).map cells) rfl rfl rfl (by decide) (by decide) (lk _) (by decide) ?_)
 try dsimp only [St.put]
 refine af rfl (b9 (rows := ([[i5, rj, i5]] : List (List ByteArray)).map cells) rfl rfl rfl (by decide) (by decide) (lk _) (by decide) ?_)
 refine aa rfl (ip (cs := cells (⟨3, [[i5, rj, i5]]⟩ : ba)) rfl rfl) ?_
 try dsimp only [St.put]
 refine af rfl (b9 (rows := ([⟨7, [[mn, i5, xIs, mo], [mo, mn, i5]]⟩, ⟨3, [[i5, rj, i5]]⟩] : List ba).map cells) rfl rfl rfl (by decide) (by decide) (lk _) (by decide) ?_)
 refine aa rfl (ip (cs := [lst exTx]) rfl rfl) ?_
 refine aa rfl (ip (cs := cells (⟨1, 50⟩ : bw)) rfl rfl) ?_
 refine aa rfl (ip (cs := cells (⟨2, 0⟩ : bw)) rfl rfl) ?_
 try dsimp only [St.put]
 refine af rfl (b9 (rows := ([⟨1, 50⟩, ⟨2, 0⟩] : List bw).map cells) rfl rfl rfl (by decide) (by decide) (lk _) (by decide) ?_)
 refine aa rfl (ip (cs := cells (⟨3, 60⟩ : bw)) rfl rfl) ?_
 try dsimp only [St.put]
 refine af rfl (b9 (rows := ([⟨3, 60⟩] : List bw).map cells) rfl rfl rfl (by decide) (by decide) (lk _) (by decide) ?_)
 try dsimp only [St.put]
 refine af rfl (bc rfl rfl rfl (pu _ _ _) ?_)
 try dsimp only [St.put]
 refine af rfl (b9 (rows := ([⟨0, 0, 0⟩] : List PlaceD).map cells) rfl rfl rfl (by decide) (by decide) (lk _) (by decide) ?_)
 try dsimp only [St.put]
 refine af rfl (bc rfl rfl rfl (s8 [⟨0, 0, 0⟩]) ?_)
 try dsimp only [St.put]
 refine af rfl (bc rfl rfl rfl (pu _ _ _) ?_)
 try dsimp only [St.put]
 refine af rfl (bc rfl rfl rfl (pu _ _ _) ?_)
 try dsimp only [St.put]
 refine af rfl (b9 (rows := ([⟨0, 0, 0⟩, ⟨0, 0, 3⟩] : List PlaceD).map cells) rfl rfl rfl (by decide) (by decide) (lk _) (by decide) ?_)
 try dsimp only [St.put]
 refine af rfl (bc rfl rfl rfl (s8 [⟨0, 0, 0⟩, ⟨0, 0, 3⟩]) ?_)
 refine aa rfl (ip (cs := cells (⟨0, 0, 0, 0, [⟨0, 0, 0⟩], [⟨0, 0, 0⟩, ⟨0, 0, 3⟩]⟩ : aw)) rfl rfl) ?_
 try dsimp only [St.put]
 refine af rfl (bc rfl rfl rfl (pu _ _ _) ?_)
 try dsimp only [St.put]
 refine af rfl (b9 (rows := ([⟨0, 1, 1⟩] : List PlaceD).map cells) rfl rfl rfl (by decide) (by decide) (lk _) (by decide) ?_)
 try dsimp only [St.put]
 refine af rfl (bc rfl rfl rfl (s8 [⟨0, 1, 1⟩]) ?_)
 refine aa rfl (ip (cs := [.v (.int .i64 1), .v (.int .i64 2), .v (.int .i64 0), .v (.int .i64 (-1)), lst ([⟨0, 1, 1⟩] : List PlaceD), .list [] .nil]) rfl rfl) ?_
 try dsimp only [St.put]
 refine af rfl (e_wk 26 (val (⟨1, 2, 0, -1, [⟨0, 1, 1⟩], []⟩ : aw)) rfl (by show Wk _ (.agg _); exact zW) ?_)
 dsimp only
 refine b9 (rows := ([⟨0, 0, 0, 0, [⟨0, 0, 0⟩], [⟨0, 0, 0⟩, ⟨0, 0, 3⟩]⟩, ⟨1, 2, 0, -1, [⟨0, 1, 1⟩], []⟩] : List aw).map cells) rfl rfl rfl (by decide) (by decide) (lk _) (by decide) ?_
 refine aa rfl (ip (cs := [lst exTx, lst exPr.firsts, lst exPr.seconds, lst exPr.pages]) rfl rfl) ?_
 try dsimp only [St.put]
 refine af rfl (dh rfl rfl rfl zG rfl rfl (by rfl) ?_)
 refine yN ?_
 dsimp only [St.put]
 refine K2 _ ?_
 refine ax ?_
 refine qv rfl (j1 rfl zG (by rfl) zC rfl) zN zS ?_
 exact zW
theorem uk8 (n : Nat) (b : Bool) (r want : Int) : fa n ez Tryz.prog 69 [.v (.bool b), .v (.int .i64 r), .v (.int .i64 want)] (.v (.bool (decide (jz exPr b r = 0) && decide (mh exPr b r = want)))) := fun G nx hF hnx => by
 refine ij (G) (nx) Tryz.func69 rfl (.v) zN (fun hlt => zH) ?_
 simp only [Tryz.ntmps69, List.length_cons, List.length_nil, Nat.reduceAdd, Nat.reduceSub]
 refine cc fun hlt => ?_
 dsimp only at hlt
 refine yS fun _ K1 => ?_
 refine yR ?_
 refine yA rfl rfl ?_
 refine yN ?_
 dsimp only [St.put]
 refine K1 _ ?_
 refine yS fun _ K2 => ?_
 refine yR ?_
 try dsimp only [St.put]
 refine af rfl (bc rfl rfl rfl (m3) ?_)
 refine yM rfl rfl ?_
 refine yM rfl rfl ?_
 try dsimp only [St.put]
 refine af rfl (ed rfl rfl rfl (ubv n exPr b r) zG (by dsimp only [St.put]; omega) ?_)
 refine yM rfl rfl ?_
 refine yX rfl rfl rfl rfl ?_
 refine yX rfl rfl rfl rfl ?_
 refine yA rfl rfl ?_
 refine yA rfl rfl ?_
 refine yN ?_
 dsimp only [St.put]
 refine K2 _ ?_
 refine yS fun _ K3 => ?_
 refine yR ?_
 refine yM rfl rfl ?_
 refine aa rfl (fm rfl rfl rfl) ?_
 refine ff (fun hs => ?_) (fun hs => ?_)
 ·have h1 : decide (jz exPr b r = 0) = true := hs
  refine yM rfl rfl ?_
  refine yM rfl rfl ?_
  refine yM rfl rfl ?_
  refine aa rfl (fm rfl rfl rfl) ?_
  refine aa rfl (ci rfl rfl (by constructor)) ?_
  refine yA rfl rfl ?_
  refine yN ?_
  dsimp only [St.put]
  refine K3 _ ?_
  refine ax ?_
  refine bf rfl (by constructor) zN zS ?_
  exact vb (by rw [h1]; rfl)
 have h1 : decide (jz exPr b r = 0) = false := hs
 refine yM rfl rfl ?_
 refine yK rfl ?_
 refine yK rfl ?_
 refine yK rfl ?_
 refine aa rfl (c5 rfl rfl (by constructor)) ?_
 refine yA rfl rfl ?_
 refine yN ?_
 dsimp only [St.put]
 refine K3 _ ?_
 refine ax ?_
 refine bf rfl (by constructor) zN zS ?_
 exact vb (by rw [h1]; rfl)
theorem uk7 (n : Nat) (m : Int) (want : List Int) : fa n ez Tryz.prog 70 [.v (.int .i64 m), lst want] (.v (.bool (decide (jb exPr m = 0) && decide (j8 exPr m = want)))) := fun G nx hF hnx => by
 refine ij (G) (nx) Tryz.func70 rfl (.v) zN (fun hlt => zH) ?_
 simp only [Tryz.ntmps70, List.length_cons, List.length_nil, Nat.reduceAdd, Nat.reduceSub]
 refine cc fun hlt => ?_
 dsimp only at hlt
 have hcl : (j8 exPr m).length ≤ 1000 := by
  unfold j8 atE
  cases decide (jb exPr m = 0)
  ·exact Nat.zero_le _
  have := zi (ti exPr m) exPr.pages.length
  have e : exPr.pages.length = 2 := rfl
  show (lx (ti exPr m) exPr.pages.length).length ≤ 1000
  omega
 refine yS fun _ K1 => ?_
 refine yR ?_
 refine yA rfl rfl ?_
 refine yN ?_
 dsimp only [St.put]
 refine K1 _ ?_
 refine yS fun _ K2 => ?_
 refine yR ?_
 try dsimp only [St.put]
 refine af rfl (bc rfl rfl rfl (m3) ?_)
 refine yM rfl rfl ?_
 try dsimp only [St.put]
 refine af rfl (ed rfl rfl rfl (ui9 n exPr m) zG (by dsimp only [St.put]; omega) ?_)
 refine yM rfl rfl ?_
 refine yX rfl rfl rfl rfl ?_
 refine yX rfl rfl rfl rfl ?_
 refine yA rfl rfl ?_
 refine yA rfl rfl ?_
 refine yN ?_
 dsimp only [St.put]
 refine K2 _ ?_
 refine yS fun _ K3 => ?_
 refine yR ?_
 refine yM rfl rfl ?_
 refine aa rfl (fm rfl rfl rfl) ?_
 refine ff (fun hs => ?_) (fun hs => ?_)
 ·have h1 : decide (jb exPr m = 0) = true := hs
  refine yM rfl rfl ?_
  refine yM rfl rfl ?_
  refine yM rfl rfl ?_
  try dsimp only [St.put]
  refine af rfl (bc rfl rfl rfl (ubc (j8 exPr m) want hcl) ?_)
  refine aa rfl (ci rfl rfl (by constructor)) ?_
  refine yA rfl rfl ?_
  refine yN ?_
  dsimp only [St.put]
  refine K3 _ ?_
  refine ax ?_
  refine bf rfl (by constructor) zN zS ?_
  exact vb (by rw [h1]; rfl)
 have h1 : decide (jb exPr m = 0) = false := hs
 refine yM rfl rfl ?_
 refine yK rfl ?_
 refine yK rfl ?_
 refine yK rfl ?_
 refine aa rfl (c5 rfl rfl (by constructor)) ?_
 refine yA rfl rfl ?_
 refine yN ?_
 dsimp only [St.put]
 refine K3 _ ?_
 refine ax ?_
 refine bf rfl (by constructor) zN zS ?_
 exact vb (by rw [h1]; rfl)
theorem unu (n : Nat) : fa n ez Tryz.prog 62 [val exPr, .v (.int .i64 1)] (.tup [.v (.int .i64 6), .v (.int .i64 0)]) := by
 have := ubp n exPr 1
 rwa [xp_words.1, xp_words.2.1] at this
theorem uny (n : Nat) : fa n ez Tryz.prog 64 [val exPr, .v (.int .i64 0)] (.tup [lst ([⟨0, 0, 0⟩, ⟨0, 0, 3⟩] : List PlaceD), .v (.int .i64 0)]) := by
 have := ubu n exPr 0
 rwa [xp_found.1, xp_words.2.2.2] at this
theorem un1 (n : Nat) : fa n ez Tryz.prog 65 [val exPr, .v (.int .i64 0)] (.tup [lst ([⟨0, 0, 0⟩] : List PlaceD), .v (.int .i64 0)]) := by
 have := ujb n exPr 0
 rwa [xp_found.2, xp_words.2.2.2] at this
theorem unx (n : Nat) : fa n ez Tryz.prog 66 [val exPr, .v (.int .i64 0)] (.tup [val (⟨2, 2⟩ : br), .v (.int .i64 0)]) := by
 have := ui8 n exPr 0
 rwa [xp_guess.1, xp_guess.2] at this
theorem unw (n : Nat) : fa n ez Tryz.prog 11 [val exPr, .v (.int .i64 1)] (.tup [val (⟨0, 1⟩ : br), .v (.int .i64 0)]) := by
 have := ui4 n exPr 1
 rwa [xp_remain.1, xp_remain.2.1] at this
theorem unv (n : Nat) : fa n ez Tryz.prog 13 [val exPr] (.tup [val (⟨0, 1⟩ : br), .v (.int .i64 0)]) := by
 have := xr n exPr
 rwa [ufq, tz] at this
theorem uns (n : Nat) : fa n ez Tryz.prog 15 [val exPr] (.tup [lst ([1, 0] : List Int), .v (.int .i64 0)]) := by
 have := uix n exPr
 rwa [ufp, tz] at this
theorem alWhy (n : Nat) : fa n ez Tryz.prog 17 [val exPr] (.tup [lst ([0] : List Int), lst ([] : List Int), .v (.int .i64 0)]) := by
 have := xq n exPr
 rwa [tz, na, na, xp_why.1, xp_why.2] at this
theorem un0 (n : Nat) : fa n ez Tryz.prog 69 [.v (.bool false), .v (.int .i64 0), .v (.int .i64 4)] (.v (.bool true)) := by
 have := uk8 n false 0 4
 rwa [xp_bound.1, xp_bound.2.1] at this
theorem unz (n : Nat) : fa n ez Tryz.prog 70 [.v (.int .i64 0), lst ([0, 1] : List Int)] (.v (.bool true)) := by
 have := uk7 n 0 [0, 1]
 rwa [xp_chief.1, xp_chief.2.1] at this
set_option maxHeartbeats 4000000 in
theorem unr (n : Nat) : fa n ez Tryz.prog 21 [] (.v (.bool true)) := fun G nx hF hnx => by
 refine ij (G) (nx) Tryz.func21 rfl (.v) zN (fun hlt => zH) ?_
 simp only [Tryz.ntmps21, List.length_cons, List.length_nil, Nat.reduceAdd, Nat.reduceSub]
 refine cc fun hlt => ?_
 dsimp only at hlt
 refine yS fun _ K1 => ?_
 refine yR ?_
 refine yA rfl rfl ?_
 refine yN ?_
 dsimp only [St.put]
 refine K1 _ ?_
 refine yS fun _ K2 => ?_
 refine yR ?_
 try dsimp only [St.put]
 refine af rfl (bc rfl rfl rfl (m3) ?_)
 try dsimp only [St.put]
 refine af rfl ((ed rfl rfl rfl ((unu n)) zG (by dsimp only [St.put]; omega) ?_))
 refine yM rfl rfl ?_
 refine yX rfl rfl rfl rfl ?_
 refine yX rfl rfl rfl rfl ?_
 refine yA rfl rfl ?_
 refine yA rfl rfl ?_
 refine yN ?_
 dsimp only [St.put]
 refine K2 _ ?_
 refine yS fun _ K3 => ?_
 refine yR ?_
 try dsimp only [St.put]
 refine af rfl (bc rfl rfl rfl (m3) ?_)
 try dsimp only [St.put]
 refine af rfl ((ed rfl rfl rfl ((uny n)) zG (by dsimp only [St.put]; omega) ?_))
 refine yM rfl rfl ?_
 refine yX rfl rfl rfl rfl ?_
 refine yX rfl rfl rfl rfl ?_
 refine yA rfl rfl ?_
 refine yA rfl rfl ?_
 refine yN ?_
 dsimp only [St.put]
 refine K3 _ ?_
 refine yS fun _ K4 => ?_
 refine yR ?_
 try dsimp only [St.put]
 refine af rfl (bc rfl rfl rfl (m3) ?_)
 try dsimp only [St.put]
 refine af rfl ((ed rfl rfl rfl ((un1 n)) zG (by dsimp only [St.put]; omega) ?_))
 refine yM rfl rfl ?_
 refine yX rfl rfl rfl rfl ?_
 refine yX rfl rfl rfl rfl ?_
 refine yA rfl rfl ?_
 refine yA rfl rfl ?_
 refine yN ?_
 dsimp only [St.put]
 refine K4 _ ?_
 refine yS fun _ K5 => ?_
 refine yR ?_
 try dsimp only [St.put]
 refine af rfl (bc rfl rfl rfl (m3) ?_)
 try dsimp only [St.put]
 refine af rfl ((ed rfl rfl rfl ((unx n)) zG (by dsimp only [St.put]; omega) ?_))
 refine yM rfl rfl ?_
 refine yX rfl rfl rfl rfl ?_
 refine yX rfl rfl rfl rfl ?_
 try dsimp only [St.put]
 refine af rfl (dx rfl ?_)
 try dsimp only [St.put]
 refine af rfl (dh rfl rfl rfl zG rfl rfl (by rfl) ?_)
 refine yA rfl rfl ?_
 refine yN ?_
 dsimp only [St.put]
 refine K5 _ ?_
 refine gh (i := 7) rfl zG zC ?_
 dsimp only
 refine yS fun _ K6 => ?_
 refine yR ?_
 try dsimp only [St.put]
 refine af rfl (bc rfl rfl rfl (m3) ?_)
 try dsimp only [St.put]
 refine af rfl ((ed rfl rfl rfl ((unw n)) zG (by dsimp only [St.put]; omega) ?_))
 refine yM rfl rfl ?_
 refine yX rfl rfl rfl rfl ?_
 refine yX rfl rfl rfl rfl ?_
 try dsimp only [St.put]
 refine af rfl (dx rfl ?_)
 try dsimp only [St.put]
 refine af rfl (dh rfl rfl rfl zG rfl rfl (by rfl) ?_)
 refine yA rfl rfl ?_
 refine yN ?_
 dsimp only [St.put]
 refine K6 _ ?_
 refine gh (i := 9) rfl zG zC ?_
 dsimp only
 refine yS fun _ K7 => ?_
 refine yR ?_
 try dsimp only [St.put]
 refine af rfl (bc rfl rfl rfl (m3) ?_)
 try dsimp only [St.put]
 refine af rfl ((ed rfl rfl rfl ((unv n)) zG (by dsimp only [St.put]; omega) ?_))
 refine yM rfl rfl ?_
 refine yX rfl rfl rfl rfl ?_
 refine yX rfl rfl rfl rfl ?_
 try dsimp only [St.put]
 refine af rfl (dx rfl ?_)
 try dsimp only [St.put]
 refine af rfl (dh rfl rfl rfl zG rfl rfl (by rfl) ?_)
 refine yA rfl rfl ?_
 refine yN ?_
 dsimp only [St.put]
 refine K7 _ ?_
 refine gh (i := 11) rfl zG zC ?_
 dsimp only
 refine yS fun _ K8 => ?_
 refine yR ?_
 try dsimp only [St.put]
 refine af rfl (bc rfl rfl rfl (m3) ?_)
 try dsimp only [St.put]
 refine af rfl ((ed rfl rfl rfl ((uns n)) zG (by dsimp only [St.put]; omega) ?_))
 refine yM rfl rfl ?_
 refine yX rfl rfl rfl rfl ?_
 refine yX rfl rfl rfl rfl ?_
 refine yA rfl rfl ?_
 refine yA rfl rfl ?_
 refine yN ?_
 dsimp only [St.put]
 refine K8 _ ?_
 refine yS fun _ K9 => ?_
 refine yR ?_
 try dsimp only [St.put]
 refine af rfl (bc rfl rfl rfl (m3) ?_)
 try dsimp only [St.put]
 refine af rfl ((ed rfl rfl rfl ((alWhy n)) zG (by dsimp only [St.put]; omega) ?_))
 refine yM rfl rfl ?_
 refine yX rfl rfl rfl rfl ?_
 refine yX rfl rfl rfl rfl ?_
 refine yX rfl rfl rfl rfl ?_
 refine yA rfl rfl ?_
 refine yA rfl rfl ?_
 refine yA rfl rfl ?_
 refine yN ?_
 dsimp only [St.put]
 refine K9 _ ?_
 refine yS fun _ K10 => ?_
 refine ct 18 ?_
 refine zQ ?_
 refine dd G zX ?_
 dsimp only
 refine yR ?_
 refine yM rfl rfl ?_
 refine aa rfl (em (fm rfl rfl rfl) (decide_eq_true (by omega))) ?_
 refine yM rfl rfl ?_
 refine yM rfl rfl ?_
 ((first | refine aa rfl ((em (c := true) (fm rfl rfl rfl) (decide_eq_true rfl))) ?_ | refine ae rfl rfl rfl rfl ((em (c := true) (fm rfl rfl rfl) (decide_eq_true rfl))) ?_ | refine c8 rfl rfl rfl rfl ((em (c := true) (fm rfl rfl rfl) (decide_eq_true rfl))) ?_ | refine tq rfl rfl rfl ((em (c := true) (fm rfl rfl rfl) (decide_eq_true rfl))) ?_))
 refine aa rfl (ci rfl rfl (by constructor)) ?_
 refine yM rfl rfl ?_
 refine yM rfl rfl ?_
 refine aa rfl (em (fm rfl rfl rfl) (decide_eq_true (by omega))) ?_
 refine aa rfl (ci rfl rfl (by constructor)) ?_
 refine yM rfl rfl ?_
 refine yM rfl rfl ?_
 try dsimp only [St.put]
 refine af rfl (bc rfl rfl rfl (pu _ _ _) ?_)
 try dsimp only [St.put]
 refine af rfl (bc rfl rfl rfl (pu _ _ _) ?_)
 try dsimp only [St.put]
 refine af rfl (b9 rfl rfl rfl (by decide) (by decide) zR (by decide) ?_)
 try dsimp only [St.put]
 refine af rfl (bc rfl rfl rfl (s8 [⟨0, 0, 0⟩, ⟨0, 0, 3⟩]) ?_)
 try dsimp only [St.put]
 refine af rfl (bc rfl rfl rfl (uc5 [⟨0, 0, 0⟩, ⟨0, 0, 3⟩]) ?_)
 refine aa rfl (ci rfl rfl (by constructor)) ?_
 refine yM rfl rfl ?_
 refine yM rfl rfl ?_
 refine aa rfl (em (fm rfl rfl rfl) (decide_eq_true (by omega))) ?_
 refine aa rfl (ci rfl rfl (by constructor)) ?_
 refine yM rfl rfl ?_
 refine yM rfl rfl ?_
 try dsimp only [St.put]
 refine af rfl (bc rfl rfl rfl (pu _ _ _) ?_)
 try dsimp only [St.put]
 refine af rfl (b9 rfl rfl rfl (by decide) (by decide) zR (by decide) ?_)
 try dsimp only [St.put]
 refine af rfl (bc rfl rfl rfl (s8 [⟨0, 0, 0⟩]) ?_)
 try dsimp only [St.put]
 refine af rfl (bc rfl rfl rfl (uc5 [⟨0, 0, 0⟩]) ?_)
 refine aa rfl (ci rfl rfl (by constructor)) ?_
 refine yM rfl rfl ?_
 try dsimp only [St.put]
 refine af rfl ((ed rfl rfl rfl ((un0 n)) zG (by dsimp only [St.put]; omega) ?_))
 refine aa rfl (ci rfl rfl (by constructor)) ?_
 refine yM rfl rfl ?_
 refine yM rfl rfl ?_
 refine aa rfl (em (fm rfl rfl rfl) (decide_eq_true (by omega))) ?_
 refine aa rfl (ci rfl rfl (by constructor)) ?_
 refine yM rfl rfl ?_
 refine yE rfl rfl rfl ?_
 refine aa rfl (ip rfl rfl) ?_
 ((first | refine aa rfl ((em (c := true) (lu (x := (⟨2, 2⟩ : br)) (y := (⟨2, 2⟩ : br)) rfl rfl rfl) (decide_eq_true rfl))) ?_ | refine ae rfl rfl rfl rfl ((em (c := true) (lu (x := (⟨2, 2⟩ : br)) (y := (⟨2, 2⟩ : br)) rfl rfl rfl) (decide_eq_true rfl))) ?_ | refine c8 rfl rfl rfl rfl ((em (c := true) (lu (x := (⟨2, 2⟩ : br)) (y := (⟨2, 2⟩ : br)) rfl rfl rfl) (decide_eq_true rfl))) ?_ | refine tq rfl rfl rfl ((em (c := true) (lu (x := (⟨2, 2⟩ : br)) (y := (⟨2, 2⟩ : br)) rfl rfl rfl) (decide_eq_true rfl))) ?_))
 refine aa rfl (ci rfl rfl (by constructor)) ?_
 refine yM rfl rfl ?_
 refine yM rfl rfl ?_
 refine aa rfl (em (fm rfl rfl rfl) (decide_eq_true (by omega))) ?_
 refine aa rfl (ci rfl rfl (by constructor)) ?_
 refine yM rfl rfl ?_
 refine yE rfl rfl rfl ?_
 refine aa rfl (ip rfl rfl) ?_
 ((first | refine aa rfl ((em (c := true) (lu (x := (⟨0, 1⟩ : br)) (y := (⟨0, 1⟩ : br)) rfl rfl rfl) (decide_eq_true rfl))) ?_ | refine ae rfl rfl rfl rfl ((em (c := true) (lu (x := (⟨0, 1⟩ : br)) (y := (⟨0, 1⟩ : br)) rfl rfl rfl) (decide_eq_true rfl))) ?_ | refine c8 rfl rfl rfl rfl ((em (c := true) (lu (x := (⟨0, 1⟩ : br)) (y := (⟨0, 1⟩ : br)) rfl rfl rfl) (decide_eq_true rfl))) ?_ | refine tq rfl rfl rfl ((em (c := true) (lu (x := (⟨0, 1⟩ : br)) (y := (⟨0, 1⟩ : br)) rfl rfl rfl) (decide_eq_true rfl))) ?_))
 refine aa rfl (ci rfl rfl (by constructor)) ?_
 refine yM rfl rfl ?_
 refine yM rfl rfl ?_
 refine aa rfl (em (fm rfl rfl rfl) (decide_eq_true (by omega))) ?_
 refine aa rfl (ci rfl rfl (by constructor)) ?_
 refine yM rfl rfl ?_
 refine yE rfl rfl rfl ?_
 refine aa rfl (ip rfl rfl) ?_
 ((first | refine aa rfl ((em (c := true) (lu (x := (⟨0, 1⟩ : br)) (y := (⟨0, 1⟩ : br)) rfl rfl rfl) (decide_eq_true rfl))) ?_ | refine ae rfl rfl rfl rfl ((em (c := true) (lu (x := (⟨0, 1⟩ : br)) (y := (⟨0, 1⟩ : br)) rfl rfl rfl) (decide_eq_true rfl))) ?_ | refine c8 rfl rfl rfl rfl ((em (c := true) (lu (x := (⟨0, 1⟩ : br)) (y := (⟨0, 1⟩ : br)) rfl rfl rfl) (decide_eq_true rfl))) ?_ | refine tq rfl rfl rfl ((em (c := true) (lu (x := (⟨0, 1⟩ : br)) (y := (⟨0, 1⟩ : br)) rfl rfl rfl) (decide_eq_true rfl))) ?_))
 refine aa rfl (ci rfl rfl (by constructor)) ?_
 refine yM rfl rfl ?_
 refine yM rfl rfl ?_
 refine aa rfl (em (fm rfl rfl rfl) (decide_eq_true (by omega))) ?_
 refine aa rfl (ci rfl rfl (by constructor)) ?_
 refine yM rfl rfl ?_
 refine yM rfl rfl ?_
 try dsimp only [St.put]
 refine af rfl (b9 rfl rfl rfl (by decide) (by decide) zR (by decide) ?_)
 try dsimp only [St.put]
 refine af rfl (bc rfl rfl rfl (uc6 [1, 0] (by decide)) ?_)
 refine aa rfl (ci rfl rfl (by constructor)) ?_
 refine yM rfl rfl ?_
 refine yM rfl rfl ?_
 refine aa rfl (em (fm rfl rfl rfl) (decide_eq_true (by omega))) ?_
 refine aa rfl (ci rfl rfl (by constructor)) ?_
 refine yM rfl rfl ?_
 refine yM rfl rfl ?_
 try dsimp only [St.put]
 refine af rfl (b9 rfl rfl rfl (by decide) (by decide) zR (by decide) ?_)
 try dsimp only [St.put]
 refine af rfl (bc rfl rfl rfl (uc6 [0] (by decide)) ?_)
 refine aa rfl (ci rfl rfl (by constructor)) ?_
 refine yM rfl rfl ?_
 refine yM rfl rfl ?_
 refine aa rfl (bp rfl rfl (List.length_map _)) ?_
 ((first | refine aa rfl ((em (c := true) (fm rfl rfl rfl) (decide_eq_true rfl))) ?_ | refine ae rfl rfl rfl rfl ((em (c := true) (fm rfl rfl rfl) (decide_eq_true rfl))) ?_ | refine c8 rfl rfl rfl rfl ((em (c := true) (fm rfl rfl rfl) (decide_eq_true rfl))) ?_ | refine tq rfl rfl rfl ((em (c := true) (fm rfl rfl rfl) (decide_eq_true rfl))) ?_))
 refine aa rfl (ci rfl rfl (by constructor)) ?_
 refine yM rfl rfl ?_
 try dsimp only [St.put]
 refine af rfl (b9 rfl rfl rfl (by decide) (by decide) zR (by decide) ?_)
 try dsimp only [St.put]
 refine af rfl ((ed rfl rfl rfl ((unz n)) zG (by dsimp only [St.put]; omega) ?_))
 refine aa rfl (ci rfl rfl (by constructor)) ?_
 refine yA rfl rfl ?_
 refine yN ?_
 dsimp only [St.put]
 refine K10 _ ?_
 refine ax ?_
 refine bf rfl (by constructor) zN zS ?_
 rfl
theorem uk3 (p : ah) : Pure Tryz.prog 22 [val p] (.v (.bool (qf p))) := by
 refine c6 Tryz.func22 rfl (fun m => .v) fun G nx => ?_
 simp only [Tryz.ntmps22, List.length_cons, List.length_nil, Nat.reduceAdd, Nat.reduceSub]
 refine cc fun hlt => ?_
 dsimp only at hlt
 refine yS fun _ K1 => ?_
 refine yR ?_
 try dsimp only [St.put]
 refine yB rfl rfl rfl ?_
 refine yA rfl rfl ?_
 refine yN ?_
 dsimp only [St.put]
 refine K1 _ ?_
 refine yS fun _ K2 => ?_
 refine yR ?_
 refine yE rfl rfl rfl ?_
 try dsimp only [St.put]
 refine af rfl (bc rfl rfl rfl (uio p) ?_)
 refine aa rfl (d7 rfl rfl) ?_
 refine yM rfl rfl ?_
 refine ff (fun hs => ?_) (fun hs => ?_)
 ·have h1 : n2 p = false := by simpa using hs
  refine yE rfl rfl rfl ?_
  try dsimp only [St.put]
  refine af rfl (bc rfl rfl rfl (uip p) ?_)
  refine aa rfl (fm rfl rfl rfl) ?_
  refine aa rfl (ci rfl rfl (by constructor)) ?_
  refine yA rfl rfl ?_
  refine yN ?_
  dsimp only [St.put]
  refine K2 _ ?_
  refine ax ?_
  refine bf rfl (by constructor) zN zS ?_
  exact vb (by simp [qf, h1])
 have h1 : n2 p = true := by simpa using hs
 refine yK rfl ?_
 refine yK rfl ?_
 refine yK rfl ?_
 refine aa rfl (c5 rfl rfl (by constructor)) ?_
 refine yA rfl rfl ?_
 refine yN ?_
 dsimp only [St.put]
 refine K2 _ ?_
 refine ax ?_
 refine bf rfl (by constructor) zN zS ?_
 exact vb (by simp [qf, h1])
end Go.Proofs.YtbbdginipiljdaaGreatDoor
namespace Go.AB
open Go Go.RowKit
open Go.AB.Enc (cells)
open Go.PB (ba ai PlaceD bh bj bi bw aw ah cw br)
end Go.AB
namespace Go.AB
open Go Go.RowKit
open Go.AB.Enc (cells)
open Go.PB (ba ai PlaceD bh bj bi bw aw ah cw br dg dl)
section
variable {p : ah} {i : Nat} {x : aw}
theorem wa (h : cv p = 0) (hx : p.pages[i]? = some x) : eo p (i : Int) = 0 := by
 have := (List.getElem?_eq_some_iff.1 hx).1
 unfold eo
 rw [decide_eq_true h, cond_true, inB_true.2 (by omega)]
 rfl
theorem ubo (hx : p.pages[i]? = some x) : l5 p (i : Int) = x := by
 unfold l5
 rw [Int.toNat_natCast, hx]; rfl
end
end Go.AB
namespace Go.Proofs.YtbbdginipiljdaaGreatDoor
set_option maxRecDepth 10000
open Go Go.RowKit Go.AB
open Go.AB.Enc (cells)
open Go.PB (ba ai PlaceD bh bj bi bw aw ah cw br dg dl)
section
variable {p : ah} {i : Nat} {x : aw}
theorem uk1 (n : Nat) (h : cv p = 0) (hx : p.pages[i]? = some x) : fa n ez Tryz.prog 62 [val p, .v (.int .i64 (i : Int))] (.tup [.v (.int .i64 (dm p.text x : Int)), .v (.int .i64 0)]) := by
 have := ubp n p (i : Int)
 rwa [wa h hx, show ne p (i : Int) = (dm p.text x : Int) by unfold ne; rw [wa h hx, ubo hx]; rfl] at this
theorem uk6 (n : Nat) (h : cv p = 0) (hx : p.pages[i]? = some x) : fa n ez Tryz.prog 64 [val p, .v (.int .i64 (i : Int))] (.tup [lst (cr p.text x), .v (.int .i64 0)]) := by
 have := ubu n p (i : Int)
 rwa [wa h hx, show o5 p (i : Int) = cr p.text x by unfold o5; rw [wa h hx, ubo hx]; rfl] at this
end
end Go.Proofs.YtbbdginipiljdaaGreatDoor
namespace Go.AB
open Go Go.RowKit
open Go.AB.Enc (cells)
open Go.PB (ba ai PlaceD bh bj bi bw aw ah cw br dg dl)
theorem uag {l : List Int} {k : Nat} {z : Int} (h : l[k]? = some z) : (l.take (k + 1)).sum = (l.take k).sum + z := by
 rw [List.take_add_one, h, Option.toList_some, List.sum_append]; simp
theorem uah {l : List Int} {m : Int} (h0 : 0 ≤ m) (h : ∀ z ∈ l, -m ≤ z ∧ z ≤ m) : ∀ k, k ≤ l.length → -(k * m) ≤ (l.take k).sum ∧ (l.take k).sum ≤ k * m
 | 0, _ => by simp
 | k + 1, hk => by
  have ih := uah h0 h k (by omega)
  have e := List.getElem?_eq_getElem (show k < l.length by omega)
  have hz := h _ (List.mem_of_getElem? e)
  rw [uag e]
  have e2 : ((k + 1 : Nat) : Int) * m = (k : Int) * m + m := by rw [Int.natCast_add, Int.add_mul]; simp
  omega
theorem ukb {l : List Int} {k : Nat} {z n : Int} (h : l[k]? = some z) : n ∈ l.take (k + 1) ↔ n ∈ l.take k ∨ n = z := by rw [List.take_add_one, h]; simp
theorem uad {p : ah} (h : eg p) (j : Nat) : 0 ≤ cy p j ∧ cy p j ≤ 600 := by
 refine ⟨ugo p j, ?_⟩
 have hq := nd h.text
 unfold cy kf
 cases p.pages[j]? with
 | none => show (0 : Int) ≤ 600; omega
 | some x => have := te p.text x; show ((cr p.text x).length : Int) ≤ 600; omega
end Go.AB
namespace Go.Proofs.YtbbdginipiljdaaGreatDoor
set_option maxRecDepth 10000
open Go Go.RowKit Go.AB
open Go.AB.Enc (cells)
open Go.PB (ba ai PlaceD bh bj bi bw aw ah cw br dg dl)
theorem uog (l : List Int) (hl : l.length ≤ 100) (hb : ∀ z ∈ l, -1000000000 ≤ z ∧ z ≤ 1000000000) : Pure Tryz.prog 30 [lst l] (.v (.int .i64 l.sum)) := by
 refine c6 Tryz.func30 rfl (fun m => .v) fun G nx => ?_
 simp only [Tryz.ntmps30, List.length_cons, List.length_nil, Nat.reduceAdd, Nat.reduceSub]
 refine cc fun hlt => ?_
 dsimp only at hlt
 refine yS fun _ K1 => ?_
 refine yR ?_
 refine yA rfl rfl ?_
 refine yN ?_
 dsimp only [St.put]
 refine K1 _ ?_
 refine yS fun _ K2 => ?_
 refine yR ?_
 refine yA rfl rfl ?_
 refine yN ?_
 dsimp only [St.put]
 refine K2 _ ?_
 refine yS fun _ K3 => ?_
 refine yS fun _ K4 => ?_
 refine yR ?_
 refine yM rfl rfl ?_
 refine aa rfl (bp rfl rfl (List.length_map _)) ?_
 refine yM rfl rfl ?_
 refine yN ?_
 dsimp only [St.put]
 refine K4 _ ?_
 refine bg ?_
 refine ct 9 ?_
 refine zQ ?_
 refine dd (G) zX ?_
 dsimp only
 refine dc (X := Nat) (fun k => k ≤ l.length) (fun k => l.length - k) (fun k => [(3, .v (.int .i64 (l.take k).sum)), (5, .any), (8, .v (.int .i64 (k : Int)))]) (fun k G' => G') 0 rfl ?_ ?_ (fun _ _ h => h) ?_ ?_ ?_
 ·exact Nat.zero_le _
 ·exact zF
 ·rintro k hI
  exact zL
 ·exact fun _ _ _ _ h => .inl h
 rintro k hI
 dsimp only at hI ⊢
 refine yS fun _ K5 => ?_
 refine yR ?_
 refine aa rfl (cp rfl rfl rfl) ?_
 refine yN ?_
 dsimp only [St.put]
 refine K5 _ ?_
 refine yS fun _ K6 => ?_
 refine av rfl (fun hc => ?_) (fun hc => ?_)
 ·replace hc := of_decide_eq_true hc
  obtain ⟨z, hz⟩ : ∃ z, l[k]? = some z := dp (by omega)
  have h1 := uah (m := 1000000000) (by omega) hb k (by omega)
  have h2 := hb z (gd hz)
  refine ay ?_
  refine K6 _ ?_
  refine yS fun _ K7 => ?_
  refine bg ?_
  refine yS fun _ K8 => ?_
  refine yR ?_
  refine aa rfl (bx rfl rfl rfl rfl (bv (by assumption)) (Enc.len _)) ?_
  refine yL rfl rfl rfl ?_
  refine yA rfl rfl ?_
  refine yN ?_
  dsimp only [St.put]
  refine K8 _ ?_
  refine yR ?_
  refine yM rfl rfl ?_
  refine yM rfl rfl ?_
  refine aa rfl (bz rfl rfl rfl (by omega)) ?_
  refine yA rfl rfl ?_
  refine yN ?_
  dsimp only [St.put]
  refine K7 _ ?_
  refine yR ?_
  refine aa rfl (bz rfl rfl rfl (by omega)) ?_
  refine yM rfl rfl ?_
  refine yN ?_
  dsimp only [St.put]
  rw [← uag hz]
  exact ⟨k + 1, by omega, by omega, ⟨⟨rfl, rfl⟩, zF, zB, zN, zX⟩⟩
 replace hc := of_decide_eq_false hc
 refine c7 ?_
 refine K3 _ ?_
 refine yS fun _ K9 => ?_
 refine yR ?_
 refine yM rfl rfl ?_
 refine yA rfl rfl ?_
 refine yN ?_
 dsimp only [St.put]
 refine K9 _ ?_
 refine ax ?_
 refine bf rfl (by constructor) zN zS ?_
 exact vi (by rw [f8 (show l.length ≤ k by omega)])
theorem ny (l : List Int) (n : Int) (hl : l.length ≤ 100) : Pure Tryz.prog 36 [lst l, .v (.int .i64 n)] (.v (.bool (decide (n ∈ l)))) := by
 refine c6 Tryz.func36 rfl (fun m => .v) fun G nx => ?_
 simp only [Tryz.ntmps36, List.length_cons, List.length_nil, Nat.reduceAdd, Nat.reduceSub]
 refine cc fun hlt => ?_
 dsimp only at hlt
 refine yS fun _ K1 => ?_
 refine yR ?_
 refine yA rfl rfl ?_
 refine yN ?_
 dsimp only [St.put]
 refine K1 _ ?_
 refine yS fun _ K2 => ?_
 refine yS fun _ K3 => ?_
 refine yR ?_
 refine yM rfl rfl ?_
 refine aa rfl (bp rfl rfl (List.length_map _)) ?_
 refine yM rfl rfl ?_
 refine yN ?_
 dsimp only [St.put]
 refine K3 _ ?_
 refine bg ?_
 refine ct 10 ?_
 refine zQ ?_
 refine dd (G) zX ?_
 dsimp only
 refine dc (X := Nat) (fun k => k ≤ l.length ∧ n ∉ l.take k) (fun k => l.length - k) (fun k => [(6, .any), (9, .v (.int .i64 (k : Int)))]) (fun k G' => G') 0 rfl ?_ ?_ (fun _ _ h => h) ?_ ?_ ?_
 ·exact ⟨Nat.zero_le _, by simp⟩
 ·exact zF
 ·rintro k hI
  exact zL
 ·exact fun _ _ _ _ h => .inl h
 rintro k hI
 dsimp only at hI ⊢
 refine yS fun _ K4 => ?_
 refine yR ?_
 refine aa rfl (cp rfl rfl rfl) ?_
 refine yN ?_
 dsimp only [St.put]
 refine K4 _ ?_
 refine yS fun _ K5 => ?_
 refine av rfl (fun hc => ?_) (fun hc => ?_)
 ·replace hc := of_decide_eq_true hc
  obtain ⟨z, hz⟩ : ∃ z, l[k]? = some z := dp (by omega)
  refine ay ?_
  refine K5 _ ?_
  refine yS fun _ K6 => ?_
  refine bg ?_
  refine yS fun _ K7 => ?_
  refine yR ?_
  refine aa rfl (bx rfl rfl rfl rfl (bv (by assumption)) (Enc.len _)) ?_
  refine yL rfl rfl rfl ?_
  refine yA rfl rfl ?_
  refine yN ?_
  dsimp only [St.put]
  refine K7 _ ?_
  refine yS fun _ K8 => ?_
  refine yR ?_
  refine yM rfl rfl ?_
  refine yM rfl rfl ?_
  refine aa rfl (fm rfl rfl rfl) ?_
  refine yN ?_
  dsimp only [St.put]
  refine K8 _ ?_
  refine av rfl (fun hc => ?_) (fun hc => ?_)
  ·have heq := of_decide_eq_true hc
   refine yS fun _ K9 => ?_
   refine yR ?_
   refine yA rfl rfl ?_
   refine yN ?_
   dsimp only [St.put]
   refine K9 _ ?_
   refine ax ?_
   refine bf rfl (by constructor) zN zS ?_
   exact vb (decide_eq_true (by rw [← heq]; exact gd hz)).symm
  have hne := of_decide_eq_false hc
  refine ay ?_
  refine K6 _ ?_
  refine yR ?_
  refine aa rfl (bz rfl rfl rfl (by omega)) ?_
  refine yM rfl rfl ?_
  refine yN ?_
  dsimp only [St.put]
  exact ⟨k + 1, by omega, ⟨by omega, by rw [ukb hz]; rintro (h | h); exact hI.2 h; exact hne h.symm⟩, ⟨⟨rfl, rfl⟩, zF, zB, zN, zX⟩⟩
 replace hc := of_decide_eq_false hc
 refine c7 ?_
 refine K2 _ ?_
 refine yS fun _ K10 => ?_
 refine yR ?_
 refine yA rfl rfl ?_
 refine yN ?_
 dsimp only [St.put]
 refine K10 _ ?_
 refine ax ?_
 refine bf rfl (by constructor) zN zS ?_
 exact vb (decide_eq_false (by
  have := hI.2
  rwa [f8 (show l.length ≤ k by omega)] at this)).symm
theorem uk5 (n : Nat) (p : ah) (h : cv p = 0) : fa n ez Tryz.prog 27 [val p] (.tup [lst (bn p.pages.length (cy p)), .v (.bool true)]) := fun G nx hF hnx => by
 refine ij (G) (nx) Tryz.func27 rfl (.tup (co (ca _ _) (co .v dn))) zN (fun hlt => zH) ?_
 simp only [Tryz.ntmps27, List.length_cons, List.length_nil, Nat.reduceAdd, Nat.reduceSub]
 refine cc fun hlt => ?_
 dsimp only at hlt
 have hnp := (lg h).1.np
 refine yS fun _ K1 => ?_
 refine yR ?_
 try dsimp only [St.put]
 refine yB rfl rfl rfl ?_
 refine yA rfl rfl ?_
 refine yA rfl rfl ?_
 refine yN ?_
 dsimp only [St.put]
 refine K1 _ ?_
 refine yS fun _ K2 => ?_
 refine yR ?_
 refine yA rfl rfl ?_
 refine yN ?_
 dsimp only [St.put]
 refine K2 _ ?_
 refine m9 4 3 1 rfl (by decide) ?_
 dsimp only [List.set_cons_zero, List.set_cons_succ]
 refine yS fun _ K3 => ?_
 refine yS fun _ K4 => ?_
 refine yR ?_
 refine yF rfl rfl rfl rfl ?_
 refine yL rfl rfl rfl ?_
 refine aa rfl (bp rfl rfl (List.length_map _)) ?_
 refine yM rfl rfl ?_
 refine yN ?_
 dsimp only [St.put]
 refine K4 _ ?_
 refine bg ?_
 refine ct 12 ?_
 refine zQ ?_
 refine dd ((ak G nx (.tip (bn 0 (cy p)).length 3 1))) zX ?_
 dsimp only
 refine dc (X := Nat) (fun k => k ≤ p.pages.length) (fun k => p.pages.length - k) (fun k => [(4, .list ((bn k (cy p)).map cells) (.tip nx)), (5, .any), (6, .any), (7, .any), (11, .v (.int .i64 (k : Int)))]) (fun k G' => (ak G nx (.tip (bn k (cy p)).length 3 1))) 0 rfl ?_ ?_ ?_ ?_ ?_ ?_
 ·exact Nat.zero_le _
 ·exact zF
 ·exact zX
 ·rintro k hI
  exact zL
 ·rintro k hI
  exact zH
 rintro k hI
 dsimp only at hI ⊢
 refine yS fun _ K5 => ?_
 refine yR ?_
 refine aa rfl (cp rfl rfl rfl) ?_
 refine yN ?_
 dsimp only [St.put]
 refine K5 _ ?_
 refine yS fun _ K6 => ?_
 refine av rfl (fun hc => ?_) (fun hc => ?_)
 ·replace hc := of_decide_eq_true hc
  obtain ⟨x, hx⟩ : ∃ x, p.pages[k]? = some x := dp (by omega)
  have e := pc k (cy p)
  rw [show cy p k = ((cr p.text x).length : Int) from ms hx _] at e
  have hll := g3 k (cy p)
  refine ay ?_
  refine K6 _ ?_
  refine yS fun _ K7 => ?_
  refine bg ?_
  refine yS fun _ K8 => ?_
  refine yR ?_
  refine yM rfl rfl ?_
  refine yA rfl rfl ?_
  refine yN ?_
  dsimp only [St.put]
  refine K8 _ ?_
  refine yS fun _ K9 => ?_
  refine yR ?_
  refine yE rfl rfl rfl ?_
  refine yM rfl rfl ?_
  try dsimp only [St.put]
  refine af rfl ((ed rfl rfl rfl ((uk6 n h hx)) zG (by dsimp only [St.put]; omega) ?_))
  refine yM rfl rfl ?_
  refine yX rfl rfl rfl rfl ?_
  refine yX rfl rfl rfl rfl ?_
  refine yA rfl rfl ?_
  refine yA rfl rfl ?_
  refine yN ?_
  dsimp only [St.put]
  refine K9 _ ?_
  refine yS fun _ K10 => ?_
  refine yS fun _ K11 => ?_
  refine yR ?_
  refine yM rfl rfl ?_
  refine aa rfl (em (c := false) (fl rfl rfl rfl) (sg rfl)) ?_
  refine yN ?_
  dsimp only [St.put]
  refine K11 _ ?_
  refine av rfl (fun h => by cases h) (fun _ => ?_)
  refine ay ?_
  refine K10 _ ?_
  refine yR ?_
  refine yM rfl rfl ?_
  refine yM rfl rfl ?_
  refine aa rfl (bp rfl rfl (List.length_map _)) ?_
  try dsimp only [St.put]
  refine af rfl (b9 rfl rfl rfl (by decide) (by decide) zR (by decide) ?_)
  try dsimp only [St.put]
  refine af rfl (cg ([((cr p.text x).length : Int)]) rfl rfl zG zE rfl rfl zA ?_ zA)
  refine yA rfl rfl ?_
  refine yN ?_
  dsimp only [St.put]
  refine K7 _ ?_
  refine yR ?_
  refine aa rfl (bz rfl rfl rfl (by omega)) ?_
  refine yM rfl rfl ?_
  refine yN ?_
  dsimp only [St.put]
  rw [← e]
  exact ⟨k + 1, by omega, by omega, ⟨⟨rfl, rfl⟩, zF, zB, zN, zX⟩⟩
 replace hc := of_decide_eq_false hc
 obtain rfl : k = p.pages.length := by omega
 refine c7 ?_
 refine K3 _ ?_
 refine yS fun _ K12 => ?_
 refine yR ?_
 refine yM rfl rfl ?_
 refine yA rfl rfl ?_
 refine yA rfl rfl ?_
 refine yN ?_
 dsimp only [St.put]
 refine K12 _ ?_
 refine ax ?_
 refine ia rfl (ef (by constructor)) (ef (by constructor)) zN zS ?_ ?_
 ·exact zW
 exact zW
theorem uk2 (n : Nat) (p : ah) (h : fo p (cv p) = 0) : fa n ez Tryz.prog 13 [val p] (.tup [val (⟨0, lz p⟩ : br), .v (.int .i64 0)]) := by
 have := xr n p
 rwa [h, show oo p = ⟨0, lz p⟩ by unfold oo; rw [h]; rfl] at this
end Go.Proofs.YtbbdginipiljdaaGreatDoor
namespace Go.PB
/-- what is told of all pages and readers -/
structure rg where
 words : List Int
 told : List Int
 firsts : List Int
 seconds : List Int
end Go.PB
namespace Go.AB
open Go Go.RowKit
open Go.AB.Enc (cells)
open Go.PB (ba ai PlaceD bh bj bi bw aw ah cw br dg dl rg)
instance : Enc rg := ⟨fun x => [lst x.words, lst x.told, lst x.firsts, lst x.seconds], 4, fun _ => rfl, fun m x c h => by
 simp only [List.mem_cons, List.not_mem_nil, or_false] at h
 rcases h with rfl | rfl | rfl | rfl
 ·exact ca m _
 ·exact ca m _
 ·exact ca m _
 ·exact ca m _, fun x c h => by
 simp only [List.mem_cons, List.not_mem_nil, or_false] at h; rcases h with rfl | rfl | rfl | rfl <;> rfl⟩
def qr (p : ah) : rg := ⟨bn p.pages.length (ge p), bn p.pages.length (cy p), bn p.firsts.length (da p false), bn p.seconds.length (da p true)⟩
theorem Rs.wk {E : Env} {w : World} : ∀ {cs cs' : List C} {vs : List Value}, Wks cs cs' → Rs E w cs vs → Rs E w cs' vs := fun {cs cs' vs} hw h =>
 ⟨hw.len ▸ h.1, fun j c v hj hv => by
  obtain ⟨c0, h1, h2⟩ := hw.get j c hj
  exact h2.2 _ _ _ (h.2 j c0 v h1 hv)⟩
theorem Pure.wk {P : Program} {f : FuncId} {al bl : List C} {r : C} (h : Pure P f bl r) (hw : Wks al bl) : Pure P f al r := fun G nx E w vs h3 h4 => h G nx E w vs (h3.wk hw) h4
theorem uiw {p : ah} (h : eg p) (F S but : List Int) (j : Nat) : -1200 ≤ cj p F S but j ∧ cj p F S but j ≤ 1200 := by
 have h1 := uad h j
 have h2 := uep h j
 unfold cj kf
 unfold cy kf at h1
 unfold di kf at h2
 cases hx : p.pages[j]? with
 | none => show (-1200 : Int) ≤ 0 ∧ (0 : Int) ≤ 1200; omega
 | some x =>
  rw [hx] at h1 h2
  dsimp only at h1 h2 ⊢
  cases !decide (x.fst ∈ F) && !decide (x.snd ∈ S) && !decide ((j : Int) ∈ but) <;> cases decide (x.fst ∈ F) <;> cases decide (x.snd ∈ S) <;> simp only [cond_true, cond_false] <;> omega
theorem uai {p : ah} (h : eg p) (F S but : List Int) (k : Nat) (hk : k ≤ 8) : -9600 ≤ sm k (cj p F S but) ∧ sm k (cj p F S but) ≤ 9600 := by
 have := ug (g := cj p F S but) (m := 1200) (fun j => uiw h F S but j) k
 omega
theorem ey (k : Nat) (g : Nat → Int) : sm (k + 1) g = sm k g + g k := rfl
theorem udc {l : List Int} {g : Int → Int} {k : Nat} {z : Int} (h : l[k]? = some z) : iq (l.take (k + 1)) g = iq (l.take k) g + g z := by
 rw [List.take_add_one, h, Option.toList_some, udd]
theorem vn {g : Int → Int} (hg : ∀ z, 0 ≤ g z ∧ g z ≤ 48000) : ∀ l : List Int, 0 ≤ iq l g ∧ iq l g ≤ l.length * 48000
 | [] => by simp [iq]
 | z :: l => by
  have ih := vn hg l
  have := hg z
  have e : iq (z :: l) g = g z + iq l g := by simp [iq]
  have e2 : ((z :: l).length : Int) * 48000 = (l.length : Int) * 48000 + 48000 := by rw [List.length_cons, Int.natCast_add, Int.add_mul]; simp
  omega
end Go.AB
namespace Go.Proofs.YtbbdginipiljdaaGreatDoor
set_option maxRecDepth 10000
open Go Go.RowKit Go.AB
open Go.AB.Enc (cells)
open Go.PB (ba ai PlaceD bh bj bi bw aw ah cw br dg dl rg)
theorem uc9 (n : Nat) (p : ah) (b : Bool) (h : cv p = 0) {i : Nat} (hi : i < (dv p b).length) : fa n ez Tryz.prog 29 [val p, .v (.bool b), .v (.int .i64 (i : Int))] (.tup [.v (.int .i64 (da p b i)), .v (.int .i64 0)]) := by
 have := ubv n p b (i : Int)
 have e : jz p b (i : Int) = 0 := by
  unfold jz
  rw [decide_eq_true h, cond_true, inB_true.2 (by omega)]; rfl
 rwa [e, show mh p b (i : Int) = da p b i by unfold mh; rw [e, Int.toNat_natCast]; rfl] at this
set_option maxHeartbeats 2000000 in
theorem uk9 (n : Nat) (p : ah) (h : cv p = 0) : fa n ez Tryz.prog 31 [val p] (.tup [val (qr p), .v (.bool true)]) := fun G nx hF hnx => by
 refine ij (G) (nx) Tryz.func31 rfl (.tup (co (el _ _) (co .v dn))) zN (fun hlt => zH) ?_
 simp only [Tryz.ntmps31, List.length_cons, List.length_nil, Nat.reduceAdd, Nat.reduceSub]
 refine cc fun hlt => ?_
 dsimp only at hlt
 have hok := (lg h).1
 have hn1 := hok.nf
 have hn2 := hok.ns
 have hnp := hok.np
 have hal := nd hok.text
 have hs1 : (dv p false).length = p.firsts.length := rfl
 have hs2 : (dv p true).length = p.seconds.length := rfl
 refine yS fun _ K1 => ?_
 refine yR ?_
 try dsimp only [St.put]
 refine yB rfl rfl rfl ?_
 try dsimp only [St.put]
 refine af rfl (dx rfl ?_)
 refine yA rfl rfl ?_
 refine yN ?_
 dsimp only [St.put]
 refine K1 _ ?_
 refine yS fun _ K2 => ?_
 refine yR ?_
 try dsimp only [St.put]
 refine af rfl (dx rfl ?_)
 refine yN ?_
 dsimp only [St.put]
 refine K2 _ ?_
 refine n8 (nx + 1) 0 _ _ 3 1 zG rfl (by decide) ?_
 refine n8 (nx + 1) 2 _ _ 3 1 zG rfl (by decide) ?_
 refine n8 (nx + 1) 3 _ _ 3 1 zG rfl (by decide) ?_
 dsimp only [List.set_cons_zero, List.set_cons_succ]
 refine yS fun _ K3 => ?_
 refine yR ?_
 refine yE rfl rfl rfl ?_
 try dsimp only [St.put]
 refine af rfl ((ed rfl rfl rfl ((uk5 n p h)) zG (by dsimp only [St.put]; omega) ?_))
 refine yM rfl rfl ?_
 refine yX rfl rfl rfl rfl ?_
 refine yX rfl rfl rfl rfl ?_
 refine yA rfl rfl ?_
 refine yA rfl rfl ?_
 refine yN ?_
 dsimp only [St.put]
 refine K3 _ ?_
 refine yS fun _ K4 => ?_
 refine yS fun _ K5 => ?_
 refine yR ?_
 refine yM rfl rfl ?_
 refine aa rfl (d7 rfl rfl) ?_
 refine yN ?_
 dsimp only [St.put]
 refine K5 _ ?_
 refine av rfl (fun h => by cases h) (fun _ => ?_)
 refine ay ?_
 refine K4 _ ?_
 refine yS fun _ K6 => ?_
 refine yR ?_
 refine yM rfl rfl ?_
 refine aa rfl (bk rfl rfl) ?_
 try dsimp only [St.put]
 refine af rfl (cd rfl rfl rfl zG (by constructor) rfl (by show 1 < 4; decide) ?_)
 refine yN ?_
 dsimp only [St.put]
 refine K6 _ ?_
 refine yS fun _ K7 => ?_
 refine yS fun _ K8 => ?_
 refine yR ?_
 refine yF rfl rfl rfl rfl ?_
 refine yL rfl rfl rfl ?_
 refine aa rfl (bp rfl rfl (List.length_map _)) ?_
 refine yM rfl rfl ?_
 refine yN ?_
 dsimp only [St.put]
 refine K8 _ ?_
 refine bg ?_
 refine ct 30 ?_
 refine zQ ?_
 refine dd ((ak (ak (ak (ak (ak G nx (.box 0 [.list [] .nil, .list [] .nil, .list [] .nil, .list [] .nil])) (nx + 1) (.box (1) [.list ((bn 0 (ge p)).map cells) (.tip (nx + 1 + 1)), lst (bn p.pages.length (cy p)), .list ((bn 0 (da p false)).map cells) (.tip (nx + 1 + 1 + 1)), .list ((bn 0 (da p true)).map cells) (.tip (nx + 1 + 1 + 1 + 1))])) (nx + 1 + 1) (.tip (bn 0 (ge p)).length 3 1)) (nx + 1 + 1 + 1) (.tip (bn 0 (da p false)).length 3 1)) (nx + 1 + 1 + 1 + 1) (.tip (bn 0 (da p true)).length 3 1))) zX ?_
 dsimp only
 refine dc (X := Nat) (fun k => k ≤ p.pages.length) (fun k => p.pages.length - k) (fun k => [(7, .any), (8, .any), (9, .any), (29, .v (.int .i64 (k : Int)))]) (fun k G' => (ak (ak (ak (ak (ak G nx (.box 0 [.list [] .nil, .list [] .nil, .list [] .nil, .list [] .nil])) (nx + 1) (.box ((1 + k)) [.list ((bn k (ge p)).map cells) (.tip (nx + 1 + 1)), lst (bn p.pages.length (cy p)), .list ((bn 0 (da p false)).map cells) (.tip (nx + 1 + 1 + 1)), .list ((bn 0 (da p true)).map cells) (.tip (nx + 1 + 1 + 1 + 1))])) (nx + 1 + 1) (.tip (bn k (ge p)).length 3 1)) (nx + 1 + 1 + 1) (.tip (bn 0 (da p false)).length 3 1)) (nx + 1 + 1 + 1 + 1) (.tip (bn 0 (da p true)).length 3 1))) 0 rfl ?_ ?_ ?_ ?_ ?_ ?_
 ·exact Nat.zero_le _
 ·exact zF
 ·exact zX
 ·rintro k hI
  exact zL
 ·rintro k hI
  exact zH
 rintro k hI
 dsimp only at hI ⊢
 refine yS fun _ K9 => ?_
 refine yR ?_
 refine aa rfl (cp rfl rfl rfl) ?_
 refine yN ?_
 dsimp only [St.put]
 refine K9 _ ?_
 refine yS fun _ K10 => ?_
 refine av rfl (fun hc => ?_) (fun hc => ?_)
 ·replace hc := of_decide_eq_true hc
  obtain ⟨x, hx⟩ : ∃ x, p.pages[k]? = some x := dp (by omega)
  have e := pc k (ge p)
  rw [show ge p k = (dm p.text x : Int) from ms hx _] at e
  have hll := g3 k (ge p)
  have hwx := rm p.text x
  refine ay ?_
  refine K10 _ ?_
  refine yS fun _ K11 => ?_
  refine bg ?_
  refine yS fun _ K12 => ?_
  refine yR ?_
  refine yM rfl rfl ?_
  refine yA rfl rfl ?_
  refine yN ?_
  dsimp only [St.put]
  refine K12 _ ?_
  refine yS fun _ K13 => ?_
  refine yR ?_
  refine yE rfl rfl rfl ?_
  refine yM rfl rfl ?_
  try dsimp only [St.put]
  refine af rfl ((ed rfl rfl rfl ((uk1 n h hx)) zG (by dsimp only [St.put]; omega) ?_))
  refine yM rfl rfl ?_
  refine yX rfl rfl rfl rfl ?_
  refine yX rfl rfl rfl rfl ?_
  refine yA rfl rfl ?_
  refine yA rfl rfl ?_
  refine yN ?_
  dsimp only [St.put]
  refine K13 _ ?_
  refine yS fun _ K14 => ?_
  refine yS fun _ K15 => ?_
  refine yR ?_
  refine yM rfl rfl ?_
  refine aa rfl (em (c := false) (fl rfl rfl rfl) (sg rfl)) ?_
  refine yN ?_
  dsimp only [St.put]
  refine K15 _ ?_
  refine av rfl (fun h => by cases h) (fun _ => ?_)
  refine ay ?_
  refine K14 _ ?_
  refine yR ?_
  refine aa rfl (bk rfl rfl) ?_
  try dsimp only [St.put]
  refine ck rfl (fu rfl rfl zG trivial (by first | rfl | assumption)) ?_
  refine yM rfl rfl ?_
  try dsimp only [St.put]
  refine af rfl (b9 rfl rfl rfl (by decide) (by decide) zR (by decide) ?_)
  try dsimp only [St.put]
  refine af rfl (cg ([(dm p.text x : Int)]) rfl rfl zG zE rfl rfl zA ?_ zA)
  refine aa rfl (bk rfl rfl) ?_
  try dsimp only [St.put]
  refine af rfl (cd rfl rfl rfl zG (by constructor) rfl zO ?_)
  refine yN ?_
  dsimp only [St.put]
  refine K11 _ ?_
  refine yR ?_
  refine aa rfl (bz rfl rfl rfl (by omega)) ?_
  refine yM rfl rfl ?_
  refine yN ?_
  dsimp only [St.put]
  rw [← e]
  exact ⟨k + 1, by omega, by omega, ⟨⟨rfl, rfl⟩, zF, zB, zN, zX⟩⟩
 replace hc := of_decide_eq_false hc
 obtain rfl : k = p.pages.length := by omega
 refine c7 ?_
 refine K7 _ ?_
 refine yS fun _ K16 => ?_
 refine yS fun _ K17 => ?_
 refine yR ?_
 refine yF rfl rfl rfl rfl ?_
 refine yL rfl rfl rfl ?_
 refine aa rfl (bp rfl rfl (List.length_map _)) ?_
 refine yM rfl rfl ?_
 refine yN ?_
 dsimp only [St.put]
 refine K17 _ ?_
 refine bg ?_
 refine ct 52 ?_
 refine zQ ?_
 refine dd ((ak (ak (ak (ak (ak G nx (.box 0 [.list [] .nil, .list [] .nil, .list [] .nil, .list [] .nil])) (nx + 1) (.box ((1 + p.pages.length)) [.list ((bn p.pages.length (ge p)).map cells) (.tip (nx + 1 + 1)), lst (bn p.pages.length (cy p)), .list ((bn 0 (da p false)).map cells) (.tip (nx + 1 + 1 + 1)), .list ((bn 0 (da p true)).map cells) (.tip (nx + 1 + 1 + 1 + 1))])) (nx + 1 + 1) (.tip (bn p.pages.length (ge p)).length 3 1)) (nx + 1 + 1 + 1) (.tip (bn 0 (da p false)).length 3 1)) (nx + 1 + 1 + 1 + 1) (.tip (bn 0 (da p true)).length 3 1))) zX ?_
 dsimp only
 refine dc (X := Nat) (fun i => i ≤ p.firsts.length) (fun i => p.firsts.length - i) (fun i => [(10, .any), (11, .any), (12, .any), (51, .v (.int .i64 (i : Int)))]) (fun i G' => (ak (ak (ak (ak (ak G nx (.box 0 [.list [] .nil, .list [] .nil, .list [] .nil, .list [] .nil])) (nx + 1) (.box ((1 + p.pages.length + i)) [.list ((bn p.pages.length (ge p)).map cells) (.tip (nx + 1 + 1)), lst (bn p.pages.length (cy p)), .list ((bn i (da p false)).map cells) (.tip (nx + 1 + 1 + 1)), .list ((bn 0 (da p true)).map cells) (.tip (nx + 1 + 1 + 1 + 1))])) (nx + 1 + 1) (.tip (bn p.pages.length (ge p)).length 3 1)) (nx + 1 + 1 + 1) (.tip (bn i (da p false)).length 3 1)) (nx + 1 + 1 + 1 + 1) (.tip (bn 0 (da p true)).length 3 1))) 0 rfl ?_ ?_ ?_ ?_ ?_ ?_
 ·exact Nat.zero_le _
 ·exact zF
 ·exact zX
 ·rintro i hI
  exact zL
 ·rintro i hI
  exact zH
 rintro i hJ
 dsimp only at hJ ⊢
 refine yS fun _ K18 => ?_
 refine yR ?_
 refine aa rfl (cp rfl rfl rfl) ?_
 refine yN ?_
 dsimp only [St.put]
 refine K18 _ ?_
 refine yS fun _ K19 => ?_
 refine av rfl (fun hc => ?_) (fun hc => ?_)
 ·replace hc := of_decide_eq_true hc
  have e := pc i (da p false)
  have hll := g3 i (da p false)
  have hbb := n7 hok false i
  refine ay ?_
  refine K19 _ ?_
  refine yS fun _ K20 => ?_
  refine bg ?_
  refine yS fun _ K21 => ?_
  refine yR ?_
  refine yM rfl rfl ?_
  refine yA rfl rfl ?_
  refine yN ?_
  dsimp only [St.put]
  refine K21 _ ?_
  refine yS fun _ K22 => ?_
  refine yR ?_
  refine yE rfl rfl rfl ?_
  refine yM rfl rfl ?_
  try dsimp only [St.put]
  refine af rfl ((ed rfl rfl rfl ((uc9 n p false h (i := i) (by omega))) zG (by dsimp only [St.put]; omega) ?_))
  refine yM rfl rfl ?_
  refine yX rfl rfl rfl rfl ?_
  refine yX rfl rfl rfl rfl ?_
  refine yA rfl rfl ?_
  refine yA rfl rfl ?_
  refine yN ?_
  dsimp only [St.put]
  refine K22 _ ?_
  refine yS fun _ K23 => ?_
  refine yS fun _ K24 => ?_
  refine yR ?_
  refine yM rfl rfl ?_
  refine aa rfl (em (c := false) (fl rfl rfl rfl) (sg rfl)) ?_
  refine yN ?_
  dsimp only [St.put]
  refine K24 _ ?_
  refine av rfl (fun h => by cases h) (fun _ => ?_)
  refine ay ?_
  refine K23 _ ?_
  refine yR ?_
  refine aa rfl (bk rfl rfl) ?_
  try dsimp only [St.put]
  refine ck rfl (fu rfl rfl zG trivial (by first | rfl | assumption)) ?_
  refine yM rfl rfl ?_
  try dsimp only [St.put]
  refine af rfl (b9 rfl rfl rfl (by decide) (by decide) zR (by decide) ?_)
  try dsimp only [St.put]
  refine af rfl (cg ([da p false i]) rfl rfl zG zE rfl rfl zA ?_ zA)
  refine aa rfl (bk rfl rfl) ?_
  try dsimp only [St.put]
  refine af rfl (cd rfl rfl rfl zG (by constructor) rfl zO ?_)
  refine yN ?_
  dsimp only [St.put]
  refine K20 _ ?_
  refine yR ?_
  refine aa rfl (bz rfl rfl rfl (by omega)) ?_
  refine yM rfl rfl ?_
  refine yN ?_
  dsimp only [St.put]
  rw [← e]
  exact ⟨i + 1, by omega, by omega, ⟨⟨rfl, rfl⟩, zF, zB, zN, zX⟩⟩
 replace hc := of_decide_eq_false hc
 obtain rfl : i = p.firsts.length := by omega
 refine c7 ?_
 refine K16 _ ?_
 refine yS fun _ K25 => ?_
 refine yS fun _ K26 => ?_
 refine yR ?_
 refine yF rfl rfl rfl rfl ?_
 refine yL rfl rfl rfl ?_
 refine aa rfl (bp rfl rfl (List.length_map _)) ?_
 refine yM rfl rfl ?_
 refine yN ?_
 dsimp only [St.put]
 refine K26 _ ?_
 refine bg ?_
 refine ct 74 ?_
 refine zQ ?_
 refine dd ((ak (ak (ak (ak (ak G nx (.box 0 [.list [] .nil, .list [] .nil, .list [] .nil, .list [] .nil])) (nx + 1) (.box ((1 + p.pages.length + p.firsts.length)) [.list ((bn p.pages.length (ge p)).map cells) (.tip (nx + 1 + 1)), lst (bn p.pages.length (cy p)), .list ((bn p.firsts.length (da p false)).map cells) (.tip (nx + 1 + 1 + 1)), .list ((bn 0 (da p true)).map cells) (.tip (nx + 1 + 1 + 1 + 1))])) (nx + 1 + 1) (.tip (bn p.pages.length (ge p)).length 3 1)) (nx + 1 + 1 + 1) (.tip (bn p.firsts.length (da p false)).length 3 1)) (nx + 1 + 1 + 1 + 1) (.tip (bn 0 (da p true)).length 3 1))) zX ?_
 dsimp only
 refine dc (X := Nat) (fun j => j ≤ p.seconds.length) (fun j => p.seconds.length - j) (fun j => [(13, .any), (14, .any), (15, .any), (73, .v (.int .i64 (j : Int)))]) (fun j G' => (ak (ak (ak (ak (ak G nx (.box 0 [.list [] .nil, .list [] .nil, .list [] .nil, .list [] .nil])) (nx + 1) (.box ((1 + p.pages.length + p.firsts.length + j)) [.list ((bn p.pages.length (ge p)).map cells) (.tip (nx + 1 + 1)), lst (bn p.pages.length (cy p)), .list ((bn p.firsts.length (da p false)).map cells) (.tip (nx + 1 + 1 + 1)), .list ((bn j (da p true)).map cells) (.tip (nx + 1 + 1 + 1 + 1))])) (nx + 1 + 1) (.tip (bn p.pages.length (ge p)).length 3 1)) (nx + 1 + 1 + 1) (.tip (bn p.firsts.length (da p false)).length 3 1)) (nx + 1 + 1 + 1 + 1) (.tip (bn j (da p true)).length 3 1))) 0 rfl ?_ ?_ ?_ ?_ ?_ ?_
 ·exact Nat.zero_le _
 ·exact zF
 ·exact zX
 ·rintro j hI
  exact zL
 ·rintro j hI
  exact zH
 rintro j hM
 dsimp only at hM ⊢
 refine yS fun _ K27 => ?_
 refine yR ?_
 refine aa rfl (cp rfl rfl rfl) ?_
 refine yN ?_
 dsimp only [St.put]
 refine K27 _ ?_
 refine yS fun _ K28 => ?_
 refine av rfl (fun hc => ?_) (fun hc => ?_)
 ·replace hc := of_decide_eq_true hc
  have e := pc j (da p true)
  have hll := g3 j (da p true)
  have hbb := n7 hok true j
  refine ay ?_
  refine K28 _ ?_
  refine yS fun _ K29 => ?_
  refine bg ?_
  refine yS fun _ K30 => ?_
  refine yR ?_
  refine yM rfl rfl ?_
  refine yA rfl rfl ?_
  refine yN ?_
  dsimp only [St.put]
  refine K30 _ ?_
  refine yS fun _ K31 => ?_
  refine yR ?_
  refine yE rfl rfl rfl ?_
  refine yM rfl rfl ?_
  try dsimp only [St.put]
  refine af rfl ((ed rfl rfl rfl ((uc9 n p true h (i := j) (by omega))) zG (by dsimp only [St.put]; omega) ?_))
  refine yM rfl rfl ?_
  refine yX rfl rfl rfl rfl ?_
  refine yX rfl rfl rfl rfl ?_
  refine yA rfl rfl ?_
  refine yA rfl rfl ?_
  refine yN ?_
  dsimp only [St.put]
  refine K31 _ ?_
  refine yS fun _ K32 => ?_
  refine yS fun _ K33 => ?_
  refine yR ?_
  refine yM rfl rfl ?_
  refine aa rfl (em (c := false) (fl rfl rfl rfl) (sg rfl)) ?_
  refine yN ?_
  dsimp only [St.put]
  refine K33 _ ?_
  refine av rfl (fun h => by cases h) (fun _ => ?_)
  refine ay ?_
  refine K32 _ ?_
  refine yR ?_
  refine aa rfl (bk rfl rfl) ?_
  try dsimp only [St.put]
  refine ck rfl (fu rfl rfl zG trivial (by first | rfl | assumption)) ?_
  refine yM rfl rfl ?_
  try dsimp only [St.put]
  refine af rfl (b9 rfl rfl rfl (by decide) (by decide) zR (by decide) ?_)
  try dsimp only [St.put]
  refine af rfl (cg ([da p true j]) rfl rfl zG zE rfl rfl zA ?_ zA)
  refine aa rfl (bk rfl rfl) ?_
  try dsimp only [St.put]
  refine af rfl (cd rfl rfl rfl zG (by constructor) rfl zO ?_)
  refine yN ?_
  dsimp only [St.put]
  refine K29 _ ?_
  refine yR ?_
  refine aa rfl (bz rfl rfl rfl (by omega)) ?_
  refine yM rfl rfl ?_
  refine yN ?_
  dsimp only [St.put]
  rw [← e]
  exact ⟨j + 1, by omega, by omega, ⟨⟨rfl, rfl⟩, zF, zB, zN, zX⟩⟩
 replace hc := of_decide_eq_false hc
 obtain rfl : j = p.seconds.length := by omega
 refine v7 (nx + 1) (1 + p.pages.length + p.firsts.length + p.seconds.length) (cells (qr p)) zG zW ?_
 refine c7 ?_
 refine K25 _ ?_
 refine yS fun _ K34 => ?_
 refine yR ?_
 try dsimp only [St.put]
 refine ck rfl (i1 rfl rfl zG trivial (by rfl)) ?_
 try dsimp only [St.put]
 refine af rfl (dh rfl rfl rfl zG rfl rfl (by rfl) ?_)
 refine yA rfl rfl ?_
 refine yN ?_
 dsimp only [St.put]
 refine K34 _ ?_
 refine ax ?_
 refine ia rfl (j1 rfl zG (by rfl) zC rfl) (ef (by constructor)) zN zS ?_ ?_
 ·exact zW
 exact zW
set_option maxHeartbeats 2000000 in
theorem uk4 (p : ah) (F S but : List Int) (h : eg p) (hF : ∀ z ∈ F, 0 ≤ z ∧ z < (p.firsts.length : Int)) (hS : ∀ z ∈ S, 0 ≤ z ∧ z < (p.seconds.length : Int)) (lF : F.length ≤ 20) (lS : S.length ≤ 20) (lB : but.length ≤ 20) : Pure Tryz.prog 32 [val (qr p), val p, lst F, lst S, lst but] (.v (.int .i64 (nl p F S but))) := by
 refine c6 Tryz.func32 rfl (fun m => .v) fun G nx => ?_
 simp only [Tryz.ntmps32, List.length_cons, List.length_nil, Nat.reduceAdd, Nat.reduceSub]
 refine cc fun hlt => ?_
 dsimp only at hlt
 have hnp := h.np
 have hl1 := g3 p.pages.length (ge p)
 have hl2 := g3 p.pages.length (cy p)
 have hl3 := g3 p.firsts.length (da p false)
 have hk3 : (qr p).firsts.length = p.firsts.length := g3 _ _
 have hk4 : (qr p).seconds.length = p.seconds.length := g3 _ _
 have hl4 := g3 p.seconds.length (da p true)
 refine yS fun _ K1 => ?_
 refine yR ?_
 try dsimp only [St.put]
 refine yB rfl rfl rfl ?_
 try dsimp only [St.put]
 refine yB rfl rfl rfl ?_
 refine yA rfl rfl ?_
 refine yN ?_
 dsimp only [St.put]
 refine K1 _ ?_
 refine yS fun _ K2 => ?_
 refine yR ?_
 refine yA rfl rfl ?_
 refine yN ?_
 dsimp only [St.put]
 refine K2 _ ?_
 refine yS fun _ K3 => ?_
 refine yS fun _ K4 => ?_
 refine yR ?_
 refine yF rfl rfl rfl rfl ?_
 refine yL rfl rfl rfl ?_
 refine aa rfl (bp rfl rfl (List.length_map _)) ?_
 refine yM rfl rfl ?_
 refine yN ?_
 dsimp only [St.put]
 refine K4 _ ?_
 refine bg ?_
 refine ct 22 ?_
 refine zQ ?_
 refine dd (G) zX ?_
 dsimp only
 refine dc (X := Nat) (fun k => k ≤ p.pages.length) (fun k => p.pages.length - k) (fun k => [(11, .v (.int .i64 (sm k (cj p F S but)))), (12, .any), (13, .any), (21, .v (.int .i64 (k : Int)))]) (fun k G' => G') 0 rfl ?_ ?_ (fun _ _ h => h) ?_ ?_ ?_
 ·exact Nat.zero_le _
 ·exact zF
 ·rintro k hI
  exact zL
 ·exact fun _ _ _ _ h => .inl h
 rintro k hI
 dsimp only at hI ⊢
 refine yS fun _ K5 => ?_
 refine yR ?_
 refine aa rfl (cp rfl rfl rfl) ?_
 refine yN ?_
 dsimp only [St.put]
 refine K5 _ ?_
 refine yS fun _ K6 => ?_
 refine av rfl (fun hc => ?_) (fun hc => ?_)
 ·replace hc := of_decide_eq_true hc
  obtain ⟨x, hx⟩ : ∃ x, p.pages[k]? = some x := dp (by omega)
  have hkl : k < p.pages.length := by omega
  have e : cj p F S but k = (bif !decide (x.fst ∈ F) && !decide (x.snd ∈ S) && !decide ((k : Int) ∈ but) then ge p k - cy p k else 0) - (bif decide (x.fst ∈ F) then cy p k else 0) - (bif decide (x.snd ∈ S) then cy p k else 0) := by
   unfold cj ge cy
   rw [ms hx, ms hx, ms hx]; rfl
  have hw := uf2 h k
  have ht := uad h k
  have hsb := uai h F S but k (by omega)
  have hgw := ke (ge p) hkl
  have hgt := ke (cy p) hkl
  refine ay ?_
  refine K6 _ ?_
  refine yS fun _ K7 => ?_
  refine bg ?_
  refine yS fun _ K8 => ?_
  refine yR ?_
  refine yM rfl rfl ?_
  refine aa rfl (bx rfl rfl rfl rfl (bv (by assumption)) (Enc.len _)) ?_
  refine yE rfl rfl rfl ?_
  try dsimp only [St.put]
  refine af rfl (dx rfl ?_)
  refine yA rfl rfl ?_
  try dsimp only [St.put]
  refine af rfl (dh rfl rfl rfl zG rfl rfl (by rfl) ?_)
  refine yN ?_
  dsimp only [St.put]
  refine K8 _ ?_
  refine gh (i := 13) rfl zG zC ?_
  dsimp only
  refine yS fun _ K9 => ?_
  refine ct 22 ?_
  refine zQ ?_
  refine kr (X := Bool) (fun d => (!decide (x.fst ∈ F) && !decide (x.snd ∈ S) && !decide ((k : Int) ∈ but)) = d) (fun d => [(43, .v (.bool d))]) (fun d G' => G') rfl ?_ (fun _ _ _ _ h => .inl h) ?_ ?_
  ·rintro d hI
   exact zL
  ·refine yR ?_
   refine yM rfl rfl ?_
   refine yF rfl rfl rfl rfl ?_
   refine yL rfl rfl rfl ?_
   try dsimp only [St.put]
   refine af rfl (bc rfl rfl rfl (ny F x.fst (by omega)) ?_)
   refine aa rfl (d7 rfl rfl) ?_
   refine ff (fun hs => ?_) (fun hs => ?_)
   ·have c1 : decide (x.fst ∈ F) = false := by simpa using hs
    refine yM rfl rfl ?_
    refine yM rfl rfl ?_
    refine yF rfl rfl rfl rfl ?_
    refine yL rfl rfl rfl ?_
    try dsimp only [St.put]
    refine af rfl (bc rfl rfl rfl (ny S x.snd (by omega)) ?_)
    refine aa rfl (d7 rfl rfl) ?_
    refine aa rfl (ci rfl rfl (by constructor)) ?_
    refine ff (fun hs => ?_) (fun hs => ?_)
    ·have c2 : decide (x.snd ∈ S) = false := by simpa using hs
     refine yM rfl rfl ?_
     refine yM rfl rfl ?_
     refine yM rfl rfl ?_
     try dsimp only [St.put]
     refine af rfl (bc rfl rfl rfl (ny but (k : Int) (by omega)) ?_)
     refine aa rfl (d7 rfl rfl) ?_
     refine aa rfl (ci rfl rfl (by constructor)) ?_
     refine yN ?_
     dsimp only [St.put]
     refine ⟨_, ?_, ⟨⟨rfl, rfl⟩, zF, zB, zN, zX⟩⟩
     simp_all
    have c2 : decide (x.snd ∈ S) = true := by simpa using hs
    refine yM rfl rfl ?_
    refine yK rfl ?_
    refine yK rfl ?_
    refine yK rfl ?_
    refine yK rfl ?_
    refine aa rfl (c5 rfl rfl (by constructor)) ?_
    refine yN ?_
    dsimp only [St.put]
    refine ⟨_, ?_, ⟨⟨rfl, rfl⟩, zF, zB, zN, zX⟩⟩
    simp_all
   have c1 : decide (x.fst ∈ F) = true := by simpa using hs
   refine yM rfl rfl ?_
   refine yK rfl ?_
   refine yK rfl ?_
   refine yK rfl ?_
   refine yK rfl ?_
   refine yK rfl ?_
   refine aa rfl (c5 rfl rfl (by constructor)) ?_
   refine yM rfl rfl ?_
   refine yK rfl ?_
   refine yK rfl ?_
   refine yK rfl ?_
   refine yK rfl ?_
   refine aa rfl (c5 rfl rfl (by constructor)) ?_
   refine yN ?_
   dsimp only [St.put]
   refine ⟨_, ?_, ⟨⟨rfl, rfl⟩, zF, zB, zN, zX⟩⟩
   simp_all
  rintro d hst
  dsimp only at hst ⊢
  refine av rfl (fun hc => ?_) (fun hc => ?_)
  ·have hd1 := hst.trans hc
   refine g7 [(0, none), (1, none), (2, none), (3, none), (4, none), (5, none), (6, none), (7, none), (8, none), (9, none), (10, none), (11, none), (12, none), (13, none)] (fun i => [].contains i) (fun i => [].contains i) (fun i => [0, 1, 3, 4, 6, 8, 9, 11, 12, 13].contains i) [] (by kernel_rfl) (by kernel_rfl) ?_
   refine xM rfl rfl rfl rfl rfl ?_
   refine ae rfl rfl rfl rfl (cx rfl rfl rfl) ?_
   try dsimp only [St.put]
   refine bd rfl rfl rfl rfl (cm rfl rfl) ?_
   refine xM rfl rfl rfl rfl rfl ?_
   try dsimp only [St.put]
   refine ae rfl rfl rfl rfl (bx rfl rfl rfl rfl (bv (by assumption)) (Enc.len _)) ?_
   try dsimp only [St.put]
   refine bd rfl rfl rfl rfl (cm rfl rfl) ?_
   refine ae rfl rfl rfl rfl (cx rfl rfl rfl) ?_
   try dsimp only [St.put]
   refine bd rfl rfl rfl rfl (cm rfl rfl) ?_
   refine xM rfl rfl rfl rfl rfl ?_
   try dsimp only [St.put]
   refine ae rfl rfl rfl rfl (bx rfl rfl rfl rfl (bv (by assumption)) (Enc.len _)) ?_
   try dsimp only [St.put]
   refine bd rfl rfl rfl rfl (cm rfl rfl) ?_
   refine ae rfl rfl rfl rfl (gt rfl rfl rfl (by omega)) ?_
   refine ae rfl rfl rfl rfl (bz rfl rfl rfl (by omega)) ?_
   refine ae rfl rfl rfl rfl (fp rfl (by constructor)) ?_
   refine az ?_
   dsimp only [St.put]
   refine K9 _ ?_
   refine yS fun _ K11 => ?_
   refine yS fun _ K12 => ?_
   refine yR ?_
   refine yM rfl rfl ?_
   refine yF rfl rfl rfl rfl ?_
   refine yL rfl rfl rfl ?_
   try dsimp only [St.put]
   refine af rfl (bc rfl rfl rfl (ny F x.fst (by omega)) ?_)
   refine yN ?_
   dsimp only [St.put]
   refine K12 _ ?_
   refine av rfl (fun hc => ?_) (fun hc => ?_)
   ·have hf1 : decide (x.fst ∈ F) = true := hc
    refine yR ?_
    refine yM rfl rfl ?_
    refine yF rfl rfl rfl rfl ?_
    refine yL rfl rfl rfl ?_
    refine yM rfl rfl ?_
    refine aa rfl (bx rfl rfl rfl rfl (bv (by assumption)) (Enc.len _)) ?_
    refine yL rfl rfl rfl ?_
    refine aa rfl (gt rfl rfl rfl (by omega)) ?_
    refine yA rfl rfl ?_
    refine yN ?_
    dsimp only [St.put]
    refine K11 _ ?_
    refine yS fun _ K13 => ?_
    refine yR ?_
    refine yM rfl rfl ?_
    refine yF rfl rfl rfl rfl ?_
    refine yL rfl rfl rfl ?_
    try dsimp only [St.put]
    refine af rfl (bc rfl rfl rfl (ny S x.snd (by omega)) ?_)
    refine yN ?_
    dsimp only [St.put]
    refine K13 _ ?_
    refine av rfl (fun hc => ?_) (fun hc => ?_)
    ·have hg1 : decide (x.snd ∈ S) = true := hc
     refine yR ?_
     refine yM rfl rfl ?_
     refine yF rfl rfl rfl rfl ?_
     refine yL rfl rfl rfl ?_
     refine yM rfl rfl ?_
     refine aa rfl (bx rfl rfl rfl rfl (bv (by assumption)) (Enc.len _)) ?_
     refine yL rfl rfl rfl ?_
     refine aa rfl (gt rfl rfl rfl (by omega)) ?_
     refine yA rfl rfl ?_
     refine yN ?_
     dsimp only [St.put]
     refine K7 _ ?_
     refine yR ?_
     refine aa rfl (bz rfl rfl rfl (by omega)) ?_
     refine yM rfl rfl ?_
     refine yN ?_
     dsimp only [St.put]
     first
     | (have q1 : (!decide (x.fst ∈ F) && !decide (x.snd ∈ S) && !decide ((k : Int) ∈ but)) = true := hd1
        have q2 : decide (x.fst ∈ F) = true := hf1
        rw [q2] at q1
        exact absurd q1 (by simp))
     | (have q1 : (!decide (x.fst ∈ F) && !decide (x.snd ∈ S) && !decide ((k : Int) ∈ but)) = true := hd1
        have q3 : decide (x.snd ∈ S) = true := hg1
        rw [q3] at q1
        exact absurd q1 (by simp))
     | (have q1 : (!decide (x.fst ∈ F) && !decide (x.snd ∈ S) && !decide ((k : Int) ∈ but)) = true := hd1
        have q2 : decide (x.fst ∈ F) = false := hf0
        have q3 : decide (x.snd ∈ S) = false := hg0
        rw [q1, q2, q3] at e
        simp only [cond_true, cond_false] at e
        rw [show sm k (cj p F S but) + (ge p k - cy p k) = sm (k + 1) (cj p F S but) by rw [ey, e]; omega]
        exact ⟨k + 1, by omega, by omega, ⟨⟨rfl, rfl⟩, zF, zB, zN, zX⟩⟩)
     | (have q1 : (!decide (x.fst ∈ F) && !decide (x.snd ∈ S) && !decide ((k : Int) ∈ but)) = false := hd0
        have q2 : decide (x.fst ∈ F) = true := hf1
        have q3 : decide (x.snd ∈ S) = true := hg1
        rw [q1, q2, q3] at e
        simp only [cond_true, cond_false] at e
        rw [show sm k (cj p F S but) - cy p k - cy p k = sm (k + 1) (cj p F S but) by rw [ey, e]; omega]
        exact ⟨k + 1, by omega, by omega, ⟨⟨rfl, rfl⟩, zF, zB, zN, zX⟩⟩)
     | (have q1 : (!decide (x.fst ∈ F) && !decide (x.snd ∈ S) && !decide ((k : Int) ∈ but)) = false := hd0
        have q2 : decide (x.fst ∈ F) = true := hf1
        have q3 : decide (x.snd ∈ S) = false := hg0
        rw [q1, q2, q3] at e
        simp only [cond_true, cond_false] at e
        rw [show sm k (cj p F S but) - cy p k = sm (k + 1) (cj p F S but) by rw [ey, e]; omega]
        exact ⟨k + 1, by omega, by omega, ⟨⟨rfl, rfl⟩, zF, zB, zN, zX⟩⟩)
     | (have q1 : (!decide (x.fst ∈ F) && !decide (x.snd ∈ S) && !decide ((k : Int) ∈ but)) = false := hd0
        have q2 : decide (x.fst ∈ F) = false := hf0
        have q3 : decide (x.snd ∈ S) = true := hg1
        rw [q1, q2, q3] at e
        simp only [cond_true, cond_false] at e
        rw [show sm k (cj p F S but) - cy p k = sm (k + 1) (cj p F S but) by rw [ey, e]; omega]
        exact ⟨k + 1, by omega, by omega, ⟨⟨rfl, rfl⟩, zF, zB, zN, zX⟩⟩)
     | (have q1 : (!decide (x.fst ∈ F) && !decide (x.snd ∈ S) && !decide ((k : Int) ∈ but)) = false := hd0
        have q2 : decide (x.fst ∈ F) = false := hf0
        have q3 : decide (x.snd ∈ S) = false := hg0
        rw [q1, q2, q3] at e
        simp only [cond_false] at e
        rw [show sm k (cj p F S but) = sm (k + 1) (cj p F S but) by rw [ey, e]; omega]
        exact ⟨k + 1, by omega, by omega, ⟨⟨rfl, rfl⟩, zF, zB, zN, zX⟩⟩)
    have hg0 : decide (x.snd ∈ S) = false := hc
    refine ay ?_
    refine K7 _ ?_
    refine yR ?_
    refine aa rfl (bz rfl rfl rfl (by omega)) ?_
    refine yM rfl rfl ?_
    refine yN ?_
    dsimp only [St.put]
    first
    | (have q1 : (!decide (x.fst ∈ F) && !decide (x.snd ∈ S) && !decide ((k : Int) ∈ but)) = true := hd1
       have q2 : decide (x.fst ∈ F) = true := hf1
       rw [q2] at q1
       exact absurd q1 (by simp))
    | (have q1 : (!decide (x.fst ∈ F) && !decide (x.snd ∈ S) && !decide ((k : Int) ∈ but)) = true := hd1
       have q3 : decide (x.snd ∈ S) = true := hg1
       rw [q3] at q1
       exact absurd q1 (by simp))
    | (have q1 : (!decide (x.fst ∈ F) && !decide (x.snd ∈ S) && !decide ((k : Int) ∈ but)) = true := hd1
       have q2 : decide (x.fst ∈ F) = false := hf0
       have q3 : decide (x.snd ∈ S) = false := hg0
       rw [q1, q2, q3] at e
       simp only [cond_true, cond_false] at e
       rw [show sm k (cj p F S but) + (ge p k - cy p k) = sm (k + 1) (cj p F S but) by rw [ey, e]; omega]
       exact ⟨k + 1, by omega, by omega, ⟨⟨rfl, rfl⟩, zF, zB, zN, zX⟩⟩)
    | (have q1 : (!decide (x.fst ∈ F) && !decide (x.snd ∈ S) && !decide ((k : Int) ∈ but)) = false := hd0
       have q2 : decide (x.fst ∈ F) = true := hf1
       have q3 : decide (x.snd ∈ S) = true := hg1
       rw [q1, q2, q3] at e
       simp only [cond_true, cond_false] at e
       rw [show sm k (cj p F S but) - cy p k - cy p k = sm (k + 1) (cj p F S but) by rw [ey, e]; omega]
       exact ⟨k + 1, by omega, by omega, ⟨⟨rfl, rfl⟩, zF, zB, zN, zX⟩⟩)
    | (have q1 : (!decide (x.fst ∈ F) && !decide (x.snd ∈ S) && !decide ((k : Int) ∈ but)) = false := hd0
       have q2 : decide (x.fst ∈ F) = true := hf1
       have q3 : decide (x.snd ∈ S) = false := hg0
       rw [q1, q2, q3] at e
       simp only [cond_true, cond_false] at e
       rw [show sm k (cj p F S but) - cy p k = sm (k + 1) (cj p F S but) by rw [ey, e]; omega]
       exact ⟨k + 1, by omega, by omega, ⟨⟨rfl, rfl⟩, zF, zB, zN, zX⟩⟩)
    | (have q1 : (!decide (x.fst ∈ F) && !decide (x.snd ∈ S) && !decide ((k : Int) ∈ but)) = false := hd0
       have q2 : decide (x.fst ∈ F) = false := hf0
       have q3 : decide (x.snd ∈ S) = true := hg1
       rw [q1, q2, q3] at e
       simp only [cond_true, cond_false] at e
       rw [show sm k (cj p F S but) - cy p k = sm (k + 1) (cj p F S but) by rw [ey, e]; omega]
       exact ⟨k + 1, by omega, by omega, ⟨⟨rfl, rfl⟩, zF, zB, zN, zX⟩⟩)
    | (have q1 : (!decide (x.fst ∈ F) && !decide (x.snd ∈ S) && !decide ((k : Int) ∈ but)) = false := hd0
       have q2 : decide (x.fst ∈ F) = false := hf0
       have q3 : decide (x.snd ∈ S) = false := hg0
       rw [q1, q2, q3] at e
       simp only [cond_false] at e
       rw [show sm k (cj p F S but) = sm (k + 1) (cj p F S but) by rw [ey, e]; omega]
       exact ⟨k + 1, by omega, by omega, ⟨⟨rfl, rfl⟩, zF, zB, zN, zX⟩⟩)
   have hf0 : decide (x.fst ∈ F) = false := hc
   refine ay ?_
   refine K11 _ ?_
   refine yS fun _ K14 => ?_
   refine yR ?_
   refine yM rfl rfl ?_
   refine yF rfl rfl rfl rfl ?_
   refine yL rfl rfl rfl ?_
   try dsimp only [St.put]
   refine af rfl (bc rfl rfl rfl (ny S x.snd (by omega)) ?_)
   refine yN ?_
   dsimp only [St.put]
   refine K14 _ ?_
   refine av rfl (fun hc => ?_) (fun hc => ?_)
   ·have hg1 : decide (x.snd ∈ S) = true := hc
    refine yR ?_
    refine yM rfl rfl ?_
    refine yF rfl rfl rfl rfl ?_
    refine yL rfl rfl rfl ?_
    refine yM rfl rfl ?_
    refine aa rfl (bx rfl rfl rfl rfl (bv (by assumption)) (Enc.len _)) ?_
    refine yL rfl rfl rfl ?_
    refine aa rfl (gt rfl rfl rfl (by omega)) ?_
    refine yA rfl rfl ?_
    refine yN ?_
    dsimp only [St.put]
    refine K7 _ ?_
    refine yR ?_
    refine aa rfl (bz rfl rfl rfl (by omega)) ?_
    refine yM rfl rfl ?_
    refine yN ?_
    dsimp only [St.put]
    first
    | (have q1 : (!decide (x.fst ∈ F) && !decide (x.snd ∈ S) && !decide ((k : Int) ∈ but)) = true := hd1
       have q2 : decide (x.fst ∈ F) = true := hf1
       rw [q2] at q1
       exact absurd q1 (by simp))
    | (have q1 : (!decide (x.fst ∈ F) && !decide (x.snd ∈ S) && !decide ((k : Int) ∈ but)) = true := hd1
       have q3 : decide (x.snd ∈ S) = true := hg1
       rw [q3] at q1
       exact absurd q1 (by simp))
    | (have q1 : (!decide (x.fst ∈ F) && !decide (x.snd ∈ S) && !decide ((k : Int) ∈ but)) = true := hd1
       have q2 : decide (x.fst ∈ F) = false := hf0
       have q3 : decide (x.snd ∈ S) = false := hg0
       rw [q1, q2, q3] at e
       simp only [cond_true, cond_false] at e
       rw [show sm k (cj p F S but) + (ge p k - cy p k) = sm (k + 1) (cj p F S but) by rw [ey, e]; omega]
       exact ⟨k + 1, by omega, by omega, ⟨⟨rfl, rfl⟩, zF, zB, zN, zX⟩⟩)
    | (have q1 : (!decide (x.fst ∈ F) && !decide (x.snd ∈ S) && !decide ((k : Int) ∈ but)) = false := hd0
       have q2 : decide (x.fst ∈ F) = true := hf1
       have q3 : decide (x.snd ∈ S) = true := hg1
       rw [q1, q2, q3] at e
       simp only [cond_true, cond_false] at e
       rw [show sm k (cj p F S but) - cy p k - cy p k = sm (k + 1) (cj p F S but) by rw [ey, e]; omega]
       exact ⟨k + 1, by omega, by omega, ⟨⟨rfl, rfl⟩, zF, zB, zN, zX⟩⟩)
    | (have q1 : (!decide (x.fst ∈ F) && !decide (x.snd ∈ S) && !decide ((k : Int) ∈ but)) = false := hd0
       have q2 : decide (x.fst ∈ F) = true := hf1
       have q3 : decide (x.snd ∈ S) = false := hg0
       rw [q1, q2, q3] at e
       simp only [cond_true, cond_false] at e
       rw [show sm k (cj p F S but) - cy p k = sm (k + 1) (cj p F S but) by rw [ey, e]; omega]
       exact ⟨k + 1, by omega, by omega, ⟨⟨rfl, rfl⟩, zF, zB, zN, zX⟩⟩)
    | (have q1 : (!decide (x.fst ∈ F) && !decide (x.snd ∈ S) && !decide ((k : Int) ∈ but)) = false := hd0
       have q2 : decide (x.fst ∈ F) = false := hf0
       have q3 : decide (x.snd ∈ S) = true := hg1
       rw [q1, q2, q3] at e
       simp only [cond_true, cond_false] at e
       rw [show sm k (cj p F S but) - cy p k = sm (k + 1) (cj p F S but) by rw [ey, e]; omega]
       exact ⟨k + 1, by omega, by omega, ⟨⟨rfl, rfl⟩, zF, zB, zN, zX⟩⟩)
    | (have q1 : (!decide (x.fst ∈ F) && !decide (x.snd ∈ S) && !decide ((k : Int) ∈ but)) = false := hd0
       have q2 : decide (x.fst ∈ F) = false := hf0
       have q3 : decide (x.snd ∈ S) = false := hg0
       rw [q1, q2, q3] at e
       simp only [cond_false] at e
       rw [show sm k (cj p F S but) = sm (k + 1) (cj p F S but) by rw [ey, e]; omega]
       exact ⟨k + 1, by omega, by omega, ⟨⟨rfl, rfl⟩, zF, zB, zN, zX⟩⟩)
   have hg0 : decide (x.snd ∈ S) = false := hc
   refine ay ?_
   refine K7 _ ?_
   refine yR ?_
   refine aa rfl (bz rfl rfl rfl (by omega)) ?_
   refine yM rfl rfl ?_
   refine yN ?_
   dsimp only [St.put]
   first
   | (have q1 : (!decide (x.fst ∈ F) && !decide (x.snd ∈ S) && !decide ((k : Int) ∈ but)) = true := hd1
      have q2 : decide (x.fst ∈ F) = true := hf1
      rw [q2] at q1
      exact absurd q1 (by simp))
   | (have q1 : (!decide (x.fst ∈ F) && !decide (x.snd ∈ S) && !decide ((k : Int) ∈ but)) = true := hd1
      have q3 : decide (x.snd ∈ S) = true := hg1
      rw [q3] at q1
      exact absurd q1 (by simp))
   | (have q1 : (!decide (x.fst ∈ F) && !decide (x.snd ∈ S) && !decide ((k : Int) ∈ but)) = true := hd1
      have q2 : decide (x.fst ∈ F) = false := hf0
      have q3 : decide (x.snd ∈ S) = false := hg0
      rw [q1, q2, q3] at e
      simp only [cond_true, cond_false] at e
      rw [show sm k (cj p F S but) + (ge p k - cy p k) = sm (k + 1) (cj p F S but) by rw [ey, e]; omega]
      exact ⟨k + 1, by omega, by omega, ⟨⟨rfl, rfl⟩, zF, zB, zN, zX⟩⟩)
   | (have q1 : (!decide (x.fst ∈ F) && !decide (x.snd ∈ S) && !decide ((k : Int) ∈ but)) = false := hd0
      have q2 : decide (x.fst ∈ F) = true := hf1
      have q3 : decide (x.snd ∈ S) = true := hg1
      rw [q1, q2, q3] at e
      simp only [cond_true, cond_false] at e
      rw [show sm k (cj p F S but) - cy p k - cy p k = sm (k + 1) (cj p F S but) by rw [ey, e]; omega]
      exact ⟨k + 1, by omega, by omega, ⟨⟨rfl, rfl⟩, zF, zB, zN, zX⟩⟩)
   | (have q1 : (!decide (x.fst ∈ F) && !decide (x.snd ∈ S) && !decide ((k : Int) ∈ but)) = false := hd0
      have q2 : decide (x.fst ∈ F) = true := hf1
      have q3 : decide (x.snd ∈ S) = false := hg0
      rw [q1, q2, q3] at e
      simp only [cond_true, cond_false] at e
      rw [show sm k (cj p F S but) - cy p k = sm (k + 1) (cj p F S but) by rw [ey, e]; omega]
      exact ⟨k + 1, by omega, by omega, ⟨⟨rfl, rfl⟩, zF, zB, zN, zX⟩⟩)
   | (have q1 : (!decide (x.fst ∈ F) && !decide (x.snd ∈ S) && !decide ((k : Int) ∈ but)) = false := hd0
      have q2 : decide (x.fst ∈ F) = false := hf0
      have q3 : decide (x.snd ∈ S) = true := hg1
      rw [q1, q2, q3] at e
      simp only [cond_true, cond_false] at e
      rw [show sm k (cj p F S but) - cy p k = sm (k + 1) (cj p F S but) by rw [ey, e]; omega]
      exact ⟨k + 1, by omega, by omega, ⟨⟨rfl, rfl⟩, zF, zB, zN, zX⟩⟩)
   | (have q1 : (!decide (x.fst ∈ F) && !decide (x.snd ∈ S) && !decide ((k : Int) ∈ but)) = false := hd0
      have q2 : decide (x.fst ∈ F) = false := hf0
      have q3 : decide (x.snd ∈ S) = false := hg0
      rw [q1, q2, q3] at e
      simp only [cond_false] at e
      rw [show sm k (cj p F S but) = sm (k + 1) (cj p F S but) by rw [ey, e]; omega]
      exact ⟨k + 1, by omega, by omega, ⟨⟨rfl, rfl⟩, zF, zB, zN, zX⟩⟩)
  have hd0 := hst.trans hc
  refine ay ?_
  refine K9 _ ?_
  refine yS fun _ K15 => ?_
  refine yS fun _ K16 => ?_
  refine yR ?_
  refine yM rfl rfl ?_
  refine yF rfl rfl rfl rfl ?_
  refine yL rfl rfl rfl ?_
  try dsimp only [St.put]
  refine af rfl (bc rfl rfl rfl (ny F x.fst (by omega)) ?_)
  refine yN ?_
  dsimp only [St.put]
  refine K16 _ ?_
  refine av rfl (fun hc => ?_) (fun hc => ?_)
  ·have hf1 : decide (x.fst ∈ F) = true := hc
   refine yR ?_
   refine yM rfl rfl ?_
   refine yF rfl rfl rfl rfl ?_
   refine yL rfl rfl rfl ?_
   refine yM rfl rfl ?_
   refine aa rfl (bx rfl rfl rfl rfl (bv (by assumption)) (Enc.len _)) ?_
   refine yL rfl rfl rfl ?_
   refine aa rfl (gt rfl rfl rfl (by omega)) ?_
   refine yA rfl rfl ?_
   refine yN ?_
   dsimp only [St.put]
   refine K15 _ ?_
   refine yS fun _ K17 => ?_
   refine yR ?_
   refine yM rfl rfl ?_
   refine yF rfl rfl rfl rfl ?_
   refine yL rfl rfl rfl ?_
   try dsimp only [St.put]
   refine af rfl (bc rfl rfl rfl (ny S x.snd (by omega)) ?_)
   refine yN ?_
   dsimp only [St.put]
   refine K17 _ ?_
   refine av rfl (fun hc => ?_) (fun hc => ?_)
   ·have hg1 : decide (x.snd ∈ S) = true := hc
    refine yR ?_
    refine yM rfl rfl ?_
    refine yF rfl rfl rfl rfl ?_
    refine yL rfl rfl rfl ?_
    refine yM rfl rfl ?_
    refine aa rfl (bx rfl rfl rfl rfl (bv (by assumption)) (Enc.len _)) ?_
    refine yL rfl rfl rfl ?_
    refine aa rfl (gt rfl rfl rfl (by omega)) ?_
    refine yA rfl rfl ?_
    refine yN ?_
    dsimp only [St.put]
    refine K7 _ ?_
    refine yR ?_
    refine aa rfl (bz rfl rfl rfl (by omega)) ?_
    refine yM rfl rfl ?_
    refine yN ?_
    dsimp only [St.put]
    first
    | (have q1 : (!decide (x.fst ∈ F) && !decide (x.snd ∈ S) && !decide ((k : Int) ∈ but)) = true := hd1
       have q2 : decide (x.fst ∈ F) = true := hf1
       rw [q2] at q1
       exact absurd q1 (by simp))
    | (have q1 : (!decide (x.fst ∈ F) && !decide (x.snd ∈ S) && !decide ((k : Int) ∈ but)) = true := hd1
       have q3 : decide (x.snd ∈ S) = true := hg1
       rw [q3] at q1
       exact absurd q1 (by simp))
    | (have q1 : (!decide (x.fst ∈ F) && !decide (x.snd ∈ S) && !decide ((k : Int) ∈ but)) = true := hd1
       have q2 : decide (x.fst ∈ F) = false := hf0
       have q3 : decide (x.snd ∈ S) = false := hg0
       rw [q1, q2, q3] at e
       simp only [cond_true, cond_false] at e
       rw [show sm k (cj p F S but) + (ge p k - cy p k) = sm (k + 1) (cj p F S but) by rw [ey, e]; omega]
       exact ⟨k + 1, by omega, by omega, ⟨⟨rfl, rfl⟩, zF, zB, zN, zX⟩⟩)
    | (have q1 : (!decide (x.fst ∈ F) && !decide (x.snd ∈ S) && !decide ((k : Int) ∈ but)) = false := hd0
       have q2 : decide (x.fst ∈ F) = true := hf1
       have q3 : decide (x.snd ∈ S) = true := hg1
       rw [q1, q2, q3] at e
       simp only [cond_true, cond_false] at e
       rw [show sm k (cj p F S but) - cy p k - cy p k = sm (k + 1) (cj p F S but) by rw [ey, e]; omega]
       exact ⟨k + 1, by omega, by omega, ⟨⟨rfl, rfl⟩, zF, zB, zN, zX⟩⟩)
    | (have q1 : (!decide (x.fst ∈ F) && !decide (x.snd ∈ S) && !decide ((k : Int) ∈ but)) = false := hd0
       have q2 : decide (x.fst ∈ F) = true := hf1
       have q3 : decide (x.snd ∈ S) = false := hg0
       rw [q1, q2, q3] at e
       simp only [cond_true, cond_false] at e
       rw [show sm k (cj p F S but) - cy p k = sm (k + 1) (cj p F S but) by rw [ey, e]; omega]
       exact ⟨k + 1, by omega, by omega, ⟨⟨rfl, rfl⟩, zF, zB, zN, zX⟩⟩)
    | (have q1 : (!decide (x.fst ∈ F) && !decide (x.snd ∈ S) && !decide ((k : Int) ∈ but)) = false := hd0
       have q2 : decide (x.fst ∈ F) = false := hf0
       have q3 : decide (x.snd ∈ S) = true := hg1
       rw [q1, q2, q3] at e
       simp only [cond_true, cond_false] at e
       rw [show sm k (cj p F S but) - cy p k = sm (k + 1) (cj p F S but) by rw [ey, e]; omega]
       exact ⟨k + 1, by omega, by omega, ⟨⟨rfl, rfl⟩, zF, zB, zN, zX⟩⟩)
    | (have q1 : (!decide (x.fst ∈ F) && !decide (x.snd ∈ S) && !decide ((k : Int) ∈ but)) = false := hd0
       have q2 : decide (x.fst ∈ F) = false := hf0
       have q3 : decide (x.snd ∈ S) = false := hg0
       rw [q1, q2, q3] at e
       simp only [cond_false] at e
       rw [show sm k (cj p F S but) = sm (k + 1) (cj p F S but) by rw [ey, e]; omega]
       exact ⟨k + 1, by omega, by omega, ⟨⟨rfl, rfl⟩, zF, zB, zN, zX⟩⟩)
   have hg0 : decide (x.snd ∈ S) = false := hc
   refine ay ?_
   refine K7 _ ?_
   refine yR ?_
   refine aa rfl (bz rfl rfl rfl (by omega)) ?_
   refine yM rfl rfl ?_
   refine yN ?_
   dsimp only [St.put]
   first
   | (have q1 : (!decide (x.fst ∈ F) && !decide (x.snd ∈ S) && !decide ((k : Int) ∈ but)) = true := hd1
      have q2 : decide (x.fst ∈ F) = true := hf1
      rw [q2] at q1
      exact absurd q1 (by simp))
   | (have q1 : (!decide (x.fst ∈ F) && !decide (x.snd ∈ S) && !decide ((k : Int) ∈ but)) = true := hd1
      have q3 : decide (x.snd ∈ S) = true := hg1
      rw [q3] at q1
      exact absurd q1 (by simp))
   | (have q1 : (!decide (x.fst ∈ F) && !decide (x.snd ∈ S) && !decide ((k : Int) ∈ but)) = true := hd1
      have q2 : decide (x.fst ∈ F) = false := hf0
      have q3 : decide (x.snd ∈ S) = false := hg0
      rw [q1, q2, q3] at e
      simp only [cond_true, cond_false] at e
      rw [show sm k (cj p F S but) + (ge p k - cy p k) = sm (k + 1) (cj p F S but) by rw [ey, e]; omega]
      exact ⟨k + 1, by omega, by omega, ⟨⟨rfl, rfl⟩, zF, zB, zN, zX⟩⟩)
   | (have q1 : (!decide (x.fst ∈ F) && !decide (x.snd ∈ S) && !decide ((k : Int) ∈ but)) = false := hd0
      have q2 : decide (x.fst ∈ F) = true := hf1
      have q3 : decide (x.snd ∈ S) = true := hg1
      rw [q1, q2, q3] at e
      simp only [cond_true, cond_false] at e
      rw [show sm k (cj p F S but) - cy p k - cy p k = sm (k + 1) (cj p F S but) by rw [ey, e]; omega]
      exact ⟨k + 1, by omega, by omega, ⟨⟨rfl, rfl⟩, zF, zB, zN, zX⟩⟩)
   | (have q1 : (!decide (x.fst ∈ F) && !decide (x.snd ∈ S) && !decide ((k : Int) ∈ but)) = false := hd0
      have q2 : decide (x.fst ∈ F) = true := hf1
      have q3 : decide (x.snd ∈ S) = false := hg0
      rw [q1, q2, q3] at e
      simp only [cond_true, cond_false] at e
      rw [show sm k (cj p F S but) - cy p k = sm (k + 1) (cj p F S but) by rw [ey, e]; omega]
      exact ⟨k + 1, by omega, by omega, ⟨⟨rfl, rfl⟩, zF, zB, zN, zX⟩⟩)
   | (have q1 : (!decide (x.fst ∈ F) && !decide (x.snd ∈ S) && !decide ((k : Int) ∈ but)) = false := hd0
      have q2 : decide (x.fst ∈ F) = false := hf0
      have q3 : decide (x.snd ∈ S) = true := hg1
      rw [q1, q2, q3] at e
      simp only [cond_true, cond_false] at e
      rw [show sm k (cj p F S but) - cy p k = sm (k + 1) (cj p F S but) by rw [ey, e]; omega]
      exact ⟨k + 1, by omega, by omega, ⟨⟨rfl, rfl⟩, zF, zB, zN, zX⟩⟩)
   | (have q1 : (!decide (x.fst ∈ F) && !decide (x.snd ∈ S) && !decide ((k : Int) ∈ but)) = false := hd0
      have q2 : decide (x.fst ∈ F) = false := hf0
      have q3 : decide (x.snd ∈ S) = false := hg0
      rw [q1, q2, q3] at e
      simp only [cond_false] at e
      rw [show sm k (cj p F S but) = sm (k + 1) (cj p F S but) by rw [ey, e]; omega]
      exact ⟨k + 1, by omega, by omega, ⟨⟨rfl, rfl⟩, zF, zB, zN, zX⟩⟩)
  have hf0 : decide (x.fst ∈ F) = false := hc
  refine ay ?_
  refine K15 _ ?_
  refine yS fun _ K18 => ?_
  refine yR ?_
  refine yM rfl rfl ?_
  refine yF rfl rfl rfl rfl ?_
  refine yL rfl rfl rfl ?_
  try dsimp only [St.put]
  refine af rfl (bc rfl rfl rfl (ny S x.snd (by omega)) ?_)
  refine yN ?_
  dsimp only [St.put]
  refine K18 _ ?_
  refine av rfl (fun hc => ?_) (fun hc => ?_)
  ·have hg1 : decide (x.snd ∈ S) = true := hc
   refine yR ?_
   refine yM rfl rfl ?_
   refine yF rfl rfl rfl rfl ?_
   refine yL rfl rfl rfl ?_
   refine yM rfl rfl ?_
   refine aa rfl (bx rfl rfl rfl rfl (bv (by assumption)) (Enc.len _)) ?_
   refine yL rfl rfl rfl ?_
   refine aa rfl (gt rfl rfl rfl (by omega)) ?_
   refine yA rfl rfl ?_
   refine yN ?_
   dsimp only [St.put]
   refine K7 _ ?_
   refine yR ?_
   refine aa rfl (bz rfl rfl rfl (by omega)) ?_
   refine yM rfl rfl ?_
   refine yN ?_
   dsimp only [St.put]
   first
   | (have q1 : (!decide (x.fst ∈ F) && !decide (x.snd ∈ S) && !decide ((k : Int) ∈ but)) = true := hd1
      have q2 : decide (x.fst ∈ F) = true := hf1
      rw [q2] at q1
      exact absurd q1 (by simp))
   | (have q1 : (!decide (x.fst ∈ F) && !decide (x.snd ∈ S) && !decide ((k : Int) ∈ but)) = true := hd1
      have q3 : decide (x.snd ∈ S) = true := hg1
      rw [q3] at q1
      exact absurd q1 (by simp))
   | (have q1 : (!decide (x.fst ∈ F) && !decide (x.snd ∈ S) && !decide ((k : Int) ∈ but)) = true := hd1
      have q2 : decide (x.fst ∈ F) = false := hf0
      have q3 : decide (x.snd ∈ S) = false := hg0
      rw [q1, q2, q3] at e
      simp only [cond_true, cond_false] at e
      rw [show sm k (cj p F S but) + (ge p k - cy p k) = sm (k + 1) (cj p F S but) by rw [ey, e]; omega]
      exact ⟨k + 1, by omega, by omega, ⟨⟨rfl, rfl⟩, zF, zB, zN, zX⟩⟩)
   | (have q1 : (!decide (x.fst ∈ F) && !decide (x.snd ∈ S) && !decide ((k : Int) ∈ but)) = false := hd0
      have q2 : decide (x.fst ∈ F) = true := hf1
      have q3 : decide (x.snd ∈ S) = true := hg1
      rw [q1, q2, q3] at e
      simp only [cond_true, cond_false] at e
      rw [show sm k (cj p F S but) - cy p k - cy p k = sm (k + 1) (cj p F S but) by rw [ey, e]; omega]
      exact ⟨k + 1, by omega, by omega, ⟨⟨rfl, rfl⟩, zF, zB, zN, zX⟩⟩)
   | (have q1 : (!decide (x.fst ∈ F) && !decide (x.snd ∈ S) && !decide ((k : Int) ∈ but)) = false := hd0
      have q2 : decide (x.fst ∈ F) = true := hf1
      have q3 : decide (x.snd ∈ S) = false := hg0
      rw [q1, q2, q3] at e
      simp only [cond_true, cond_false] at e
      rw [show sm k (cj p F S but) - cy p k = sm (k + 1) (cj p F S but) by rw [ey, e]; omega]
      exact ⟨k + 1, by omega, by omega, ⟨⟨rfl, rfl⟩, zF, zB, zN, zX⟩⟩)
   | (have q1 : (!decide (x.fst ∈ F) && !decide (x.snd ∈ S) && !decide ((k : Int) ∈ but)) = false := hd0
      have q2 : decide (x.fst ∈ F) = false := hf0
      have q3 : decide (x.snd ∈ S) = true := hg1
      rw [q1, q2, q3] at e
      simp only [cond_true, cond_false] at e
      rw [show sm k (cj p F S but) - cy p k = sm (k + 1) (cj p F S but) by rw [ey, e]; omega]
      exact ⟨k + 1, by omega, by omega, ⟨⟨rfl, rfl⟩, zF, zB, zN, zX⟩⟩)
   | (have q1 : (!decide (x.fst ∈ F) && !decide (x.snd ∈ S) && !decide ((k : Int) ∈ but)) = false := hd0
      have q2 : decide (x.fst ∈ F) = false := hf0
      have q3 : decide (x.snd ∈ S) = false := hg0
      rw [q1, q2, q3] at e
      simp only [cond_false] at e
      rw [show sm k (cj p F S but) = sm (k + 1) (cj p F S but) by rw [ey, e]; omega]
      exact ⟨k + 1, by omega, by omega, ⟨⟨rfl, rfl⟩, zF, zB, zN, zX⟩⟩)
  have hg0 : decide (x.snd ∈ S) = false := hc
  refine ay ?_
  refine K7 _ ?_
  refine yR ?_
  refine aa rfl (bz rfl rfl rfl (by omega)) ?_
  refine yM rfl rfl ?_
  refine yN ?_
  dsimp only [St.put]
  first
  | (have q1 : (!decide (x.fst ∈ F) && !decide (x.snd ∈ S) && !decide ((k : Int) ∈ but)) = true := hd1
     have q2 : decide (x.fst ∈ F) = true := hf1
     rw [q2] at q1
     exact absurd q1 (by simp))
  | (have q1 : (!decide (x.fst ∈ F) && !decide (x.snd ∈ S) && !decide ((k : Int) ∈ but)) = true := hd1
     have q3 : decide (x.snd ∈ S) = true := hg1
     rw [q3] at q1
     exact absurd q1 (by simp))
  | (have q1 : (!decide (x.fst ∈ F) && !decide (x.snd ∈ S) && !decide ((k : Int) ∈ but)) = true := hd1
     have q2 : decide (x.fst ∈ F) = false := hf0
     have q3 : decide (x.snd ∈ S) = false := hg0
     rw [q1, q2, q3] at e
     simp only [cond_true, cond_false] at e
     rw [show sm k (cj p F S but) + (ge p k - cy p k) = sm (k + 1) (cj p F S but) by rw [ey, e]; omega]
     exact ⟨k + 1, by omega, by omega, ⟨⟨rfl, rfl⟩, zF, zB, zN, zX⟩⟩)
  | (have q1 : (!decide (x.fst ∈ F) && !decide (x.snd ∈ S) && !decide ((k : Int) ∈ but)) = false := hd0
     have q2 : decide (x.fst ∈ F) = true := hf1
     have q3 : decide (x.snd ∈ S) = true := hg1
     rw [q1, q2, q3] at e
     simp only [cond_true, cond_false] at e
     rw [show sm k (cj p F S but) - cy p k - cy p k = sm (k + 1) (cj p F S but) by rw [ey, e]; omega]
     exact ⟨k + 1, by omega, by omega, ⟨⟨rfl, rfl⟩, zF, zB, zN, zX⟩⟩)
  | (have q1 : (!decide (x.fst ∈ F) && !decide (x.snd ∈ S) && !decide ((k : Int) ∈ but)) = false := hd0
     have q2 : decide (x.fst ∈ F) = true := hf1
     have q3 : decide (x.snd ∈ S) = false := hg0
     rw [q1, q2, q3] at e
     simp only [cond_true, cond_false] at e
     rw [show sm k (cj p F S but) - cy p k = sm (k + 1) (cj p F S but) by rw [ey, e]; omega]
     exact ⟨k + 1, by omega, by omega, ⟨⟨rfl, rfl⟩, zF, zB, zN, zX⟩⟩)
  | (have q1 : (!decide (x.fst ∈ F) && !decide (x.snd ∈ S) && !decide ((k : Int) ∈ but)) = false := hd0
     have q2 : decide (x.fst ∈ F) = false := hf0
     have q3 : decide (x.snd ∈ S) = true := hg1
     rw [q1, q2, q3] at e
     simp only [cond_true, cond_false] at e
     rw [show sm k (cj p F S but) - cy p k = sm (k + 1) (cj p F S but) by rw [ey, e]; omega]
     exact ⟨k + 1, by omega, by omega, ⟨⟨rfl, rfl⟩, zF, zB, zN, zX⟩⟩)
  | (have q1 : (!decide (x.fst ∈ F) && !decide (x.snd ∈ S) && !decide ((k : Int) ∈ but)) = false := hd0
     have q2 : decide (x.fst ∈ F) = false := hf0
     have q3 : decide (x.snd ∈ S) = false := hg0
     rw [q1, q2, q3] at e
     simp only [cond_false] at e
     rw [show sm k (cj p F S but) = sm (k + 1) (cj p F S but) by rw [ey, e]; omega]
     exact ⟨k + 1, by omega, by omega, ⟨⟨rfl, rfl⟩, zF, zB, zN, zX⟩⟩)
 replace hc := of_decide_eq_false hc
 obtain rfl : k = p.pages.length := by omega
 have hsb := uai h F S but p.pages.length hnp
 obtain ⟨A, hA⟩ : ∃ A, sm p.pages.length (cj p F S but) = A := ⟨_, rfl⟩
 rw [hA] at hsb
 refine c7 ?_
 refine K3 _ ?_
 refine yS fun _ K19 => ?_
 refine yS fun _ K20 => ?_
 refine yR ?_
 refine yM rfl rfl ?_
 refine aa rfl (bp rfl rfl (List.length_map _)) ?_
 refine yM rfl rfl ?_
 refine yN ?_
 dsimp only [St.put]
 rw [hA, show A = A + iq (F.take 0) (fun i => da p false i.toNat) by show A = A + 0; omega]
 refine K20 _ ?_
 refine bg ?_
 refine ct 83 ?_
 refine zQ ?_
 refine dd (G) zX ?_
 dsimp only
 refine dc (X := Nat) (fun i => i ≤ F.length) (fun i => F.length - i) (fun i => [(11, .v (.int .i64 (A + iq (F.take i) (fun i => da p false i.toNat)))), (15, .any), (82, .v (.int .i64 (i : Int)))]) (fun i G' => G') 0 rfl ?_ ?_ (fun _ _ h => h) ?_ ?_ ?_
 ·exact Nat.zero_le _
 ·exact zF
 ·rintro i hI
  exact zL
 ·exact fun _ _ _ _ h => .inl h
 rintro i hJ
 dsimp only at hJ ⊢
 refine yS fun _ K21 => ?_
 refine yR ?_
 refine aa rfl (cp rfl rfl rfl) ?_
 refine yN ?_
 dsimp only [St.put]
 refine K21 _ ?_
 refine yS fun _ K22 => ?_
 refine av rfl (fun hc => ?_) (fun hc => ?_)
 ·replace hc := of_decide_eq_true hc
  obtain ⟨z0, hz0⟩ : ∃ z, F[i]? = some z := dp (by omega)
  have hzb := hF z0 (gd hz0)
  obtain ⟨z, rfl⟩ : ∃ z : Nat, z0 = (z : Int) := ⟨z0.toNat, by omega⟩
  have hzl : z < p.firsts.length := by omega
  have hgz := ke (da p false) hzl
  have e := udc (g := fun i => da p false i.toNat) hz0
  try dsimp only at e
  rw [Int.toNat_natCast] at e
  have hbz := n7 h false z
  have hib := vn (g := fun i => da p false i.toNat) (fun z => n7 h false z.toNat) (F.take i)
  have htl : (F.take i).length ≤ 20 := by rw [List.length_take]; omega
  refine ay ?_
  refine K22 _ ?_
  refine yS fun _ K23 => ?_
  refine bg ?_
  refine yS fun _ K24 => ?_
  refine yR ?_
  refine aa rfl (bx rfl rfl rfl rfl (bv (by assumption)) (Enc.len _)) ?_
  refine yL rfl rfl rfl ?_
  refine yA rfl rfl ?_
  refine yN ?_
  dsimp only [St.put]
  refine K24 _ ?_
  refine yS fun _ K25 => ?_
  refine yS fun _ K26 => ?_
  refine yR ?_
  refine yM rfl rfl ?_
  refine aa rfl (cp rfl rfl rfl) ?_
  refine yM rfl rfl ?_
  refine yM rfl rfl ?_
  refine yF rfl rfl rfl rfl ?_
  refine yL rfl rfl rfl ?_
  refine aa rfl (bp rfl rfl (List.length_map _)) ?_
  refine aa rfl ((em (c := false) (lp rfl rfl rfl) (decide_eq_false (by rw [hk3]; omega)))) ?_
  refine aa rfl (c5 rfl rfl (by constructor)) ?_
  refine yN ?_
  dsimp only [St.put]
  refine K26 _ ?_
  refine av rfl (fun h => by cases h) (fun _ => ?_)
  refine ay ?_
  refine K25 _ ?_
  refine yR ?_
  refine yM rfl rfl ?_
  refine yF rfl rfl rfl rfl ?_
  refine yL rfl rfl rfl ?_
  refine yM rfl rfl ?_
  refine aa rfl (bx rfl rfl rfl rfl (bv (by assumption)) (Enc.len _)) ?_
  refine yL rfl rfl rfl ?_
  refine aa rfl (bz rfl rfl rfl (by omega)) ?_
  refine yA rfl rfl ?_
  refine yN ?_
  dsimp only [St.put]
  refine K23 _ ?_
  refine yR ?_
  refine aa rfl (bz rfl rfl rfl (by omega)) ?_
  refine yM rfl rfl ?_
  refine yN ?_
  dsimp only [St.put]
  rw [Int.add_assoc, ← e]
  exact ⟨i + 1, by omega, by omega, ⟨⟨rfl, rfl⟩, zF, zB, zN, zX⟩⟩
 replace hc := of_decide_eq_false hc
 rw [f8 (show F.length ≤ i by omega)]
 have hib := vn (g := fun i => da p false i.toNat) (fun z => n7 h false z.toNat) F
 obtain ⟨B, hB⟩ : ∃ B, iq F (fun i => da p false i.toNat) = B := ⟨_, rfl⟩
 rw [hB] at hib
 refine c7 ?_
 refine K19 _ ?_
 refine yS fun _ K27 => ?_
 refine yS fun _ K28 => ?_
 refine yR ?_
 refine yM rfl rfl ?_
 refine aa rfl (bp rfl rfl (List.length_map _)) ?_
 refine yM rfl rfl ?_
 refine yN ?_
 dsimp only [St.put]
 rw [hB, show A + B = A + B + iq (S.take 0) (fun i => da p true i.toNat) by show A + B = A + B + 0; omega]
 refine K28 _ ?_
 refine bg ?_
 refine ct 106 ?_
 refine zQ ?_
 refine dd (G) zX ?_
 dsimp only
 refine dc (X := Nat) (fun j => j ≤ S.length) (fun j => S.length - j) (fun j => [(11, .v (.int .i64 (A + B + iq (S.take j) (fun i => da p true i.toNat)))), (17, .any), (105, .v (.int .i64 (j : Int)))]) (fun j G' => G') 0 rfl ?_ ?_ (fun _ _ h => h) ?_ ?_ ?_
 ·exact Nat.zero_le _
 ·exact zF
 ·rintro j hI
  exact zL
 ·exact fun _ _ _ _ h => .inl h
 rintro j hM
 dsimp only at hM ⊢
 refine yS fun _ K29 => ?_
 refine yR ?_
 refine aa rfl (cp rfl rfl rfl) ?_
 refine yN ?_
 dsimp only [St.put]
 refine K29 _ ?_
 refine yS fun _ K30 => ?_
 refine av rfl (fun hc => ?_) (fun hc => ?_)
 ·replace hc := of_decide_eq_true hc
  obtain ⟨z0, hz0⟩ : ∃ z, S[j]? = some z := dp (by omega)
  have hzb := hS z0 (gd hz0)
  obtain ⟨z, rfl⟩ : ∃ z : Nat, z0 = (z : Int) := ⟨z0.toNat, by omega⟩
  have hzl : z < p.seconds.length := by omega
  have hgz := ke (da p true) hzl
  have e := udc (g := fun i => da p true i.toNat) hz0
  try dsimp only at e
  rw [Int.toNat_natCast] at e
  have hbz := n7 h true z
  have hib2 := vn (g := fun i => da p true i.toNat) (fun z => n7 h true z.toNat) (S.take j)
  have htl : (S.take j).length ≤ 20 := by rw [List.length_take]; omega
  refine ay ?_
  refine K30 _ ?_
  refine yS fun _ K31 => ?_
  refine bg ?_
  refine yS fun _ K32 => ?_
  refine yR ?_
  refine aa rfl (bx rfl rfl rfl rfl (bv (by assumption)) (Enc.len _)) ?_
  refine yL rfl rfl rfl ?_
  refine yA rfl rfl ?_
  refine yN ?_
  dsimp only [St.put]
  refine K32 _ ?_
  refine yS fun _ K33 => ?_
  refine yS fun _ K34 => ?_
  refine yR ?_
  refine yM rfl rfl ?_
  refine aa rfl (cp rfl rfl rfl) ?_
  refine yM rfl rfl ?_
  refine yM rfl rfl ?_
  refine yF rfl rfl rfl rfl ?_
  refine yL rfl rfl rfl ?_
  refine aa rfl (bp rfl rfl (List.length_map _)) ?_
  refine aa rfl ((em (c := false) (lp rfl rfl rfl) (decide_eq_false (by rw [hk4]; omega)))) ?_
  refine aa rfl (c5 rfl rfl (by constructor)) ?_
  refine yN ?_
  dsimp only [St.put]
  refine K34 _ ?_
  refine av rfl (fun h => by cases h) (fun _ => ?_)
  refine ay ?_
  refine K33 _ ?_
  refine yR ?_
  refine yM rfl rfl ?_
  refine yF rfl rfl rfl rfl ?_
  refine yL rfl rfl rfl ?_
  refine yM rfl rfl ?_
  refine aa rfl (bx rfl rfl rfl rfl (bv (by assumption)) (Enc.len _)) ?_
  refine yL rfl rfl rfl ?_
  refine aa rfl (bz rfl rfl rfl (by omega)) ?_
  refine yA rfl rfl ?_
  refine yN ?_
  dsimp only [St.put]
  refine K31 _ ?_
  refine yR ?_
  refine aa rfl (bz rfl rfl rfl (by omega)) ?_
  refine yM rfl rfl ?_
  refine yN ?_
  dsimp only [St.put]
  rw [show A + B + iq (S.take j) (fun i => da p true i.toNat) + da p true z = A + B + iq (S.take (j + 1)) (fun i => da p true i.toNat) by rw [e]; omega]
  exact ⟨j + 1, by omega, by omega, ⟨⟨rfl, rfl⟩, zF, zB, zN, zX⟩⟩
 replace hc := of_decide_eq_false hc
 rw [f8 (show S.length ≤ j by omega)]
 refine c7 ?_
 refine K27 _ ?_
 refine yS fun _ K35 => ?_
 refine yR ?_
 refine yM rfl rfl ?_
 refine yA rfl rfl ?_
 refine yN ?_
 dsimp only [St.put]
 refine K35 _ ?_
 refine ax ?_
 refine bf rfl (by constructor) zN zS ?_
 exact vi (by rw [← hA, ← hB]; rfl)
end Go.Proofs.YtbbdginipiljdaaGreatDoor
namespace Go.AB
open Go Go.RowKit
open Go.AB.Enc (cells)
open Go.PB (ba ai PlaceD bh bj bi bw aw ah cw br dg dl rg)
/-- the readers of the bits of a number: firsts by the first ones, seconds by those from the fifth on -/
def q9 (p : ah) (A i : Nat) : Bool := bif decide (i < p.firsts.length) then A.testBit i else A.testBit (4 + (i - p.firsts.length))
theorem uex (p : ah) (A : Nat) : cz p.firsts.length (q9 p A) = cz p.firsts.length fun i => A.testBit i := yb fun i hi => by unfold q9; rw [decide_eq_true hi]; rfl
theorem uew (p : ah) (A : Nat) : (cz p.seconds.length fun i => q9 p A (p.firsts.length + i)) = cz p.seconds.length fun i => A.testBit (4 + i) := yb fun i _ => by unfold q9; rw [decide_eq_false (by omega), Nat.add_sub_cancel_left]; rfl
theorem ve {n : Nat} {S : Nat → Bool} : ∀ z ∈ cz n S, 0 ≤ z ∧ z < (n : Int) := fun z hz => by
 obtain ⟨i, e, hi, _⟩ := memL_mem.1 hz
 omega
/-- the facts of the law -/
theorem uf6 {p : ah} (h : eg p) (A : Nat) : nl p (jk p (ep p)) (jd p (ep p)) [] = lz p ∧ lz p ≤ nl p (cz p.firsts.length fun i => A.testBit i) (cz p.seconds.length fun i => A.testBit (4 + i)) [] ∧ (nl p (cz p.firsts.length fun i => A.testBit i) (cz p.seconds.length fun i => A.testBit (4 + i)) [] = lz p → gu (ii (cz p.firsts.length fun i => A.testBit i) (cz p.seconds.length fun i => A.testBit (4 + i))) (ii (jk p (ep p)) (jd p (ep p))) = false) ∧ (∀ z ∈ jk p (ep p), 0 ≤ z ∧ z < (p.firsts.length : Int)) ∧ (∀ z ∈ jd p (ep p), 0 ≤ z ∧ z < (p.seconds.length : Int)) := by
 obtain ⟨T, hT, hf, hb⟩ := uf8 h
 rw [hT, ugd, uga]
 have e1 := ubg h (q9 p A) []
 rw [uex, uew, wl] at e1
 have e2 := ubg h T []
 rw [wl, hf] at e2
 refine ⟨e2, ?_, fun he => ?_, fun z hz => ve z hz, fun z hz => ve z hz⟩
 ·rw [e1]
  exact Net.most_le (x7 h) _
 have e3 := una h.nf (b := p.seconds.length) (q9 p A) T
 rw [uex, uew] at e3
 rw [e3]
 exact hb _ (e1.symm.trans he)
theorem zd (a b : List Int) : (ii a b).length = a.length + b.length := by simp [ii]
theorem umz (a : List Int) {b : List Int} {k : Nat} {z : Int} (h : b[k]? = some z) : ii a (b.take (k + 1)) = ii a (b.take k) ++ [z + 3] := by
 unfold ii
 rw [List.take_add_one, h, Option.toList_some, List.map_append, List.append_assoc]; rfl
end Go.AB
namespace Go.Proofs.YtbbdginipiljdaaGreatDoor
set_option maxRecDepth 10000
open Go Go.RowKit Go.AB
open Go.AB.Enc (cells)
open Go.PB (ba ai PlaceD bh bj bi bw aw ah cw br dg dl rg)
theorem uc8 (a b : List Int) (ha : a.length ≤ 100) (hb : b.length ≤ 100) (hz : ∀ z ∈ b, 0 ≤ z ∧ z ≤ 1000) : Pure Tryz.prog 33 [lst a, lst b] (lst (ii a b)) := by
 refine c6 Tryz.func33 rfl (fun m => (ca _ _)) fun G nx => ?_
 simp only [Tryz.ntmps33, List.length_cons, List.length_nil, Nat.reduceAdd, Nat.reduceSub]
 refine cc fun hlt => ?_
 dsimp only at hlt
 refine yS fun _ K1 => ?_
 refine yR ?_
 refine yA rfl rfl ?_
 refine yN ?_
 dsimp only [St.put]
 refine K1 _ ?_
 refine yS fun _ K2 => ?_
 refine yR ?_
 try dsimp only [St.put]
 refine af rfl (uma rfl (by decide) ?_)
 refine yM rfl rfl ?_
 try dsimp only [St.put]
 refine af rfl (qw (xs := ([] : List Int)) a rfl rfl zG rfl rfl rfl rfl zA zA (fun v1 => ?_))
 refine yA rfl rfl ?_
 refine yN ?_
 dsimp only [St.put]
 simp only [List.nil_append]
 rw [show dq a = dq (ii a (b.take 0)) by simp [ii], show a.length = (ii a (b.take 0)).length by simp [ii]]
 refine K2 _ ?_
 refine yS fun _ K3 => ?_
 refine yS fun _ K4 => ?_
 refine yR ?_
 refine yM rfl rfl ?_
 refine aa rfl (bp rfl rfl (List.length_map _)) ?_
 refine yM rfl rfl ?_
 refine yN ?_
 dsimp only [St.put]
 refine K4 _ ?_
 refine bg ?_
 refine ct 14 ?_
 refine zQ ?_
 refine dd ((ak G nx (.arr v1 0 3 1 (ii a (b.take 0)).length (dq (ii a (b.take 0)))))) zX ?_
 dsimp only
 refine dc (X := Nat × Nat) (fun y => y.1 ≤ b.length) (fun y => b.length - y.1) (fun y => [(5, .own nx y.2 (ii a (b.take y.1)).length), (7, .any), (13, .v (.int .i64 (y.1 : Int)))]) (fun y G' => (ak G nx (.arr y.2 0 3 1 (ii a (b.take y.1)).length (dq (ii a (b.take y.1)))))) (0, v1) rfl ?_ ?_ ?_ ?_ ?_ ?_
 ·exact Nat.zero_le _
 ·exact zF
 ·exact zX
 ·rintro ⟨k, v⟩ hI
  exact zL
 ·rintro ⟨k, v⟩ hI
  exact zH
 rintro ⟨k, v⟩ hI
 dsimp only at hI ⊢
 refine yS fun _ K5 => ?_
 refine yR ?_
 refine aa rfl (cp rfl rfl rfl) ?_
 refine yN ?_
 dsimp only [St.put]
 refine K5 _ ?_
 refine yS fun _ K6 => ?_
 refine av rfl (fun hc => ?_) (fun hc => ?_)
 ·replace hc := of_decide_eq_true hc
  obtain ⟨z, hk⟩ : ∃ z, b[k]? = some z := dp (by omega)
  have hzb := hz z (gd hk)
  have e := umz a hk
  have hl := zd a (b.take k)
  have htl : (b.take k).length ≤ b.length := List.length_take_le' _ _
  refine ay ?_
  refine K6 _ ?_
  refine yS fun _ K7 => ?_
  refine bg ?_
  refine yS fun _ K8 => ?_
  refine yR ?_
  refine aa rfl (bx rfl rfl rfl rfl (bv (by assumption)) (Enc.len _)) ?_
  refine yL rfl rfl rfl ?_
  refine yA rfl rfl ?_
  refine yN ?_
  dsimp only [St.put]
  refine K8 _ ?_
  refine yR ?_
  refine yM rfl rfl ?_
  refine yM rfl rfl ?_
  refine aa rfl (bz rfl rfl rfl (by omega)) ?_
  try dsimp only [St.put]
  refine af rfl (b9 rfl rfl rfl (by decide) (by decide) zR (by decide) ?_)
  try dsimp only [St.put]
  refine af rfl (qw (xs := ii a (b.take k)) [z + 3] rfl rfl zG rfl rfl rfl rfl (by simp only [List.length_cons, List.length_nil]; omega) (by simp only [List.length_cons, List.length_nil]; omega) (fun v2 => ?_))
  refine yA rfl rfl ?_
  refine yN ?_
  dsimp only [St.put]
  refine K7 _ ?_
  refine yR ?_
  refine aa rfl (bz rfl rfl rfl (by omega)) ?_
  refine yM rfl rfl ?_
  refine yN ?_
  dsimp only [St.put]
  rw [← e]
  exact ⟨(k + 1, v2), by (dsimp only; omega), by (dsimp only; omega), ⟨⟨rfl, rfl⟩, zF, zB, zN, zX⟩⟩
 replace hc := of_decide_eq_false hc
 rw [f8 (show b.length ≤ k by omega)]
 refine v8 5 (ii a b) rfl zG rfl rfl rfl ?_
 refine c7 ?_
 refine K3 _ ?_
 refine yS fun _ K9 => ?_
 refine yR ?_
 refine yM rfl rfl ?_
 refine yA rfl rfl ?_
 refine yN ?_
 dsimp only [St.put]
 refine K9 _ ?_
 refine ax ?_
 refine bf rfl (by constructor) zN zS ?_
 rfl
theorem lWhy (n : Nat) (p : ah) (h : fo p (cv p) = 0) : fa n ez Tryz.prog 17 [val p] (.tup [lst (jk p (ep p)), lst (jd p (ep p)), .v (.int .i64 0)]) := by
 have := xq n p
 rwa [h, na, na] at this
theorem uc7 (p : ah) (F S : List Int) (h : eg p) (hF : ∀ z ∈ F, 0 ≤ z ∧ z < (p.firsts.length : Int)) (hS : ∀ z ∈ S, 0 ≤ z ∧ z < (p.seconds.length : Int)) (lF : F.length ≤ 20) (lS : S.length ≤ 20) : Pure Tryz.prog 32 [val (qr p), val p, lst F, lst S, .list [] .nil] (.v (.int .i64 (nl p F S []))) :=
 (uk4 p F S [] h hF hS lF lS (by simp)).wk ⟨Wk.refl _, Wk.refl _, Wk.refl _, Wk.refl _, Wk.tok, trivial⟩
set_option maxHeartbeats 4000000 in
theorem why_s (p : ah) (a : Int) : fa 0 ez Tryz.prog 7 [val p, .v (.int .u8 a)] (.v (.bool true)) := fun G nx hF hnx => by
 refine ij (G) (nx) Tryz.func7 rfl (.v) zN (fun hlt => zH) ?_
 simp only [Tryz.ntmps7, List.length_cons, List.length_nil, Nat.reduceAdd, Nat.reduceSub]
 refine cc fun hlt => ?_
 dsimp only at hlt
 refine lh 1 (fun hfa => ?_)
 replace hfa := ugl hfa
 obtain ⟨A, rfl⟩ : ∃ A : Nat, a = (A : Int) := ⟨a.toNat, by omega⟩
 refine yS fun _ K1 => ?_
 refine yR ?_
 try dsimp only [St.put]
 refine yB rfl rfl rfl ?_
 refine yA rfl rfl ?_
 refine yN ?_
 dsimp only [St.put]
 refine K1 _ ?_
 refine yS fun _ K2 => ?_
 refine yR ?_
 try dsimp only [St.put]
 refine af rfl ((ed rfl rfl rfl ((unr 0)) zG (by dsimp only [St.put]; omega) ?_))
 refine yA rfl rfl ?_
 refine yN ?_
 dsimp only [St.put]
 refine K2 _ ?_
 refine yS fun _ K3 => ?_
 refine yS fun _ K4 => ?_
 refine yR ?_
 refine yE rfl rfl rfl ?_
 try dsimp only [St.put]
 refine af rfl (bc rfl rfl rfl (uk3 p) ?_)
 refine aa rfl (d7 rfl rfl) ?_
 refine ff (fun hs => ?_) (fun hs => ?_)
 ·skip
  refine yM rfl rfl ?_
  refine yK rfl ?_
  refine yK rfl ?_
  refine aa rfl (ci rfl rfl (by constructor)) ?_
  refine yN ?_
  dsimp only [St.put]
  refine K4 _ ?_
  refine av rfl (fun _ => ?_) (fun h => by cases h)
  refine yS fun _ K5 => ?_
  refine yR ?_
  refine yM rfl rfl ?_
  refine yA rfl rfl ?_
  refine yN ?_
  dsimp only [St.put]
  refine K5 _ ?_
  refine ax ?_
  refine bf rfl (by constructor) zN zS ?_
  rfl
 have hrd : qf p = true := by simpa using hs
 have hC := (readyP_true.1 hrd).2
 obtain ⟨hok, _⟩ := lg hC
 have hn1 := hok.nf
 have hn2 := hok.ns
 have hL0 : fo p (cv p) = bif i6 p then 0 else 8 := by rw [hC, qp]
 obtain ⟨w1, w2, w3, w4, w5⟩ := uf6 hok A
 refine yM rfl rfl ?_
 refine yM rfl rfl ?_
 refine aa rfl (d7 rfl rfl) ?_
 refine aa rfl (c5 rfl rfl (by constructor)) ?_
 refine yN ?_
 dsimp only [St.put]
 refine K4 _ ?_
 refine av rfl (fun h => by cases h) (fun _ => ?_)
 refine ay ?_
 refine K3 _ ?_
 refine yS fun _ K6 => ?_
 by_cases hT : i6 p = true
 ·have hL : fo p (cv p) = 0 := by rw [hL0, hT]; rfl
  refine yR ?_
  refine yE rfl rfl rfl ?_
  try dsimp only [St.put]
  refine af rfl ((ed rfl rfl rfl ((lWhy 0 p hL)) zG (by dsimp only [St.put]; omega) ?_))
  refine yM rfl rfl ?_
  refine yX rfl rfl rfl rfl ?_
  refine yX rfl rfl rfl rfl ?_
  refine yX rfl rfl rfl rfl ?_
  refine yA rfl rfl ?_
  refine yA rfl rfl ?_
  refine yA rfl rfl ?_
  refine yN ?_
  dsimp only [St.put]
  refine K6 _ ?_
  refine yS fun _ K7 => ?_
  refine yR ?_
  refine yE rfl rfl rfl ?_
  try dsimp only [St.put]
  refine af rfl ((ed rfl rfl rfl ((uk2 0 p hL)) zG (by dsimp only [St.put]; omega) ?_))
  refine yM rfl rfl ?_
  refine yX rfl rfl rfl rfl ?_
  refine yX rfl rfl rfl rfl ?_
  try dsimp only [St.put]
  refine af rfl (dx rfl ?_)
  try dsimp only [St.put]
  refine af rfl (dh rfl rfl rfl zG rfl rfl (by rfl) ?_)
  refine yA rfl rfl ?_
  refine yN ?_
  dsimp only [St.put]
  refine K7 _ ?_
  refine gh (i := 9) rfl zG zC ?_
  dsimp only
  refine yS fun _ K8 => ?_
  refine yS fun _ K9 => ?_
  refine yR ?_
  refine yM rfl rfl ?_
  refine aa rfl ((em (c := false) (fl rfl rfl rfl) (sg rfl))) ?_
  refine yN ?_
  dsimp only [St.put]
  refine K9 _ ?_
  refine av rfl (fun h => by cases h) (fun _ => ?_)
  refine ay ?_
  refine K8 _ ?_
  refine yS fun _ K10 => ?_
  refine yR ?_
  refine yA rfl rfl ?_
  refine yA rfl rfl ?_
  refine yN ?_
  dsimp only [St.put]
  refine K10 _ ?_
  refine m9 11 3 1 rfl (by decide) ?_
  refine m9 12 3 1 rfl (by decide) ?_
  dsimp only [List.set_cons_zero, List.set_cons_succ]
  refine yS fun _ K11 => ?_
  refine yS fun _ K12 => ?_
  refine yR ?_
  refine yF rfl rfl rfl rfl ?_
  refine yL rfl rfl rfl ?_
  refine aa rfl (bp rfl rfl (List.length_map _)) ?_
  refine yM rfl rfl ?_
  refine yN ?_
  dsimp only [St.put]
  refine K12 _ ?_
  refine bg ?_
  refine ct 55 ?_
  refine zQ ?_
  refine dd ((ak (ak G (nx + 1) (.tip (ec 0 A).length 3 1)) (nx + 1 + 1) (.tip (cz 0 fun i => A.testBit (4 + i)).length 3 1))) zX ?_
  dsimp only
  refine dc (X := Nat) (fun k => k ≤ p.firsts.length) (fun k => p.firsts.length - k) (fun k => [(11, .list ((ec k A).map cells) (.tip (nx + 1))), (13, .any), (54, .v (.int .i64 (k : Int)))]) (fun k G' => (ak (ak G (nx + 1) (.tip (ec k A).length 3 1)) (nx + 1 + 1) (.tip (cz 0 fun i => A.testBit (4 + i)).length 3 1))) 0 rfl ?_ ?_ ?_ ?_ ?_ ?_
  ·exact Nat.zero_le _
  ·exact zF
  ·exact zX
  ·rintro k hI
   exact zL
  ·rintro k hI
   exact zH
  rintro k hI
  dsimp only at hI ⊢
  refine yS fun _ K13 => ?_
  refine yR ?_
  refine aa rfl (cp rfl rfl rfl) ?_
  refine yN ?_
  dsimp only [St.put]
  refine K13 _ ?_
  refine yS fun _ K14 => ?_
  refine av rfl (fun hc => ?_) (fun hc => ?_)
  ·replace hc := of_decide_eq_true hc
   have hml := pp k A
   refine ay ?_
   refine K14 _ ?_
   refine yS fun _ K15 => ?_
   refine bg ?_
   refine yS fun _ K16 => ?_
   refine yR ?_
   refine yM rfl rfl ?_
   refine yA rfl rfl ?_
   refine yN ?_
   dsimp only [St.put]
   refine K16 _ ?_
   refine yS fun _ K17 => ?_
   refine yR ?_
   refine yM rfl rfl ?_
   refine yM rfl rfl ?_
   refine aa rfl (si (m := A) (n := k) rfl rfl rfl (by show k ≤ 8; omega) (by show (A : Int) ≤ 255; omega) (by decide)) ?_
   refine aa rfl (sl (m := A / 2 ^ k) rfl rfl rfl (Nat.lt_of_le_of_lt (Nat.div_le_self _ _) (by show A < 2 ^ 8; omega)) (by decide)) ?_
   refine aa rfl (fm rfl rfl rfl) ?_
   refine yN ?_
   dsimp only [St.put]
   refine K17 _ ?_
   refine av rfl (fun hc => ?_) (fun hc => ?_)
   ·have hb : A.testBit k = true := bit_eq.1 (of_decide_eq_true hc)
    refine yR ?_
    refine yM rfl rfl ?_
    refine yM rfl rfl ?_
    try dsimp only [St.put]
    refine af rfl (b9 rfl rfl rfl (by decide) (by decide) zR (by decide) ?_)
    try dsimp only [St.put]
    refine af rfl (cg ([(k : Int)]) rfl rfl zG zE rfl rfl zA ?_ zA)
    refine yA rfl rfl ?_
    refine yN ?_
    dsimp only [St.put]
    refine K15 _ ?_
    refine yR ?_
    refine aa rfl (bz rfl rfl rfl (by omega)) ?_
    refine yM rfl rfl ?_
    refine yN ?_
    dsimp only [St.put]
    have e := u9 k A
    first
    | (have q : A.testBit k = true := hb
       rw [q, cond_true] at e
       rw [← e]
       exact ⟨k + 1, by omega, by omega, ⟨⟨rfl, rfl⟩, zF, zB, zN, zX⟩⟩)
    | (have q : A.testBit k = false := hb
       rw [q, cond_false, List.append_nil] at e
       rw [← e]
       exact ⟨k + 1, by omega, by omega, ⟨⟨rfl, rfl⟩, zF, zB, zN, zX⟩⟩)
   have hb : A.testBit k = false := by
    have := of_decide_eq_false hc
    rw [bit_eq, Bool.not_eq_true] at this
    exact this
   refine ay ?_
   refine K15 _ ?_
   refine yR ?_
   refine aa rfl (bz rfl rfl rfl (by omega)) ?_
   refine yM rfl rfl ?_
   refine yN ?_
   dsimp only [St.put]
   have e := u9 k A
   first
   | (have q : A.testBit k = true := hb
      rw [q, cond_true] at e
      rw [← e]
      exact ⟨k + 1, by omega, by omega, ⟨⟨rfl, rfl⟩, zF, zB, zN, zX⟩⟩)
   | (have q : A.testBit k = false := hb
      rw [q, cond_false, List.append_nil] at e
      rw [← e]
      exact ⟨k + 1, by omega, by omega, ⟨⟨rfl, rfl⟩, zF, zB, zN, zX⟩⟩)
  replace hc := of_decide_eq_false hc
  obtain rfl : k = p.firsts.length := by omega
  refine c7 ?_
  refine K11 _ ?_
  refine yS fun _ K18 => ?_
  refine yS fun _ K19 => ?_
  refine yR ?_
  refine yF rfl rfl rfl rfl ?_
  refine yL rfl rfl rfl ?_
  refine aa rfl (bp rfl rfl (List.length_map _)) ?_
  refine yM rfl rfl ?_
  refine yN ?_
  dsimp only [St.put]
  refine K19 _ ?_
  refine bg ?_
  refine ct 71 ?_
  refine zQ ?_
  refine dd ((ak (ak G (nx + 1) (.tip (ec p.firsts.length A).length 3 1)) (nx + 1 + 1) (.tip (cz 0 fun i => A.testBit (4 + i)).length 3 1))) zX ?_
  dsimp only
  refine dc (X := Nat) (fun j => j ≤ p.seconds.length) (fun j => p.seconds.length - j) (fun j => [(12, .list ((cz j fun i => A.testBit (4 + i)).map cells) (.tip (nx + 1 + 1))), (14, .any), (70, .v (.int .i64 (j : Int)))]) (fun j G' => (ak (ak G (nx + 1) (.tip (ec p.firsts.length A).length 3 1)) (nx + 1 + 1) (.tip (cz j fun i => A.testBit (4 + i)).length 3 1))) 0 rfl ?_ ?_ ?_ ?_ ?_ ?_
  ·exact Nat.zero_le _
  ·exact zF
  ·exact zX
  ·rintro j hI
   exact zL
  ·rintro j hI
   exact zH
  rintro j hJ
  dsimp only at hJ ⊢
  refine yS fun _ K20 => ?_
  refine yR ?_
  refine aa rfl (cp rfl rfl rfl) ?_
  refine yN ?_
  dsimp only [St.put]
  refine K20 _ ?_
  refine yS fun _ K21 => ?_
  refine av rfl (fun hc => ?_) (fun hc => ?_)
  ·replace hc := of_decide_eq_true hc
   have hml := uco j fun i => A.testBit (4 + i)
   refine ay ?_
   refine K21 _ ?_
   refine yS fun _ K22 => ?_
   refine bg ?_
   refine yS fun _ K23 => ?_
   refine yR ?_
   refine yM rfl rfl ?_
   refine yA rfl rfl ?_
   refine yN ?_
   dsimp only [St.put]
   refine K23 _ ?_
   refine yS fun _ K24 => ?_
   refine yR ?_
   refine yM rfl rfl ?_
   refine yM rfl rfl ?_
   refine aa rfl (bz rfl rfl rfl (by omega)) ?_
   refine aa rfl (si (m := A) (n := 4 + j) rfl rfl rfl (by show 4 + j ≤ 8; omega) (by show (A : Int) ≤ 255; omega) (by decide)) ?_
   refine aa rfl (sl (m := A / 2 ^ (4 + j)) rfl rfl rfl (Nat.lt_of_le_of_lt (Nat.div_le_self _ _) (by show A < 2 ^ 8; omega)) (by decide)) ?_
   refine aa rfl (fm rfl rfl rfl) ?_
   refine yN ?_
   dsimp only [St.put]
   refine K24 _ ?_
   refine av rfl (fun hc => ?_) (fun hc => ?_)
   ·have hb : A.testBit (4 + j) = true := bit_eq.1 (of_decide_eq_true hc)
    refine yR ?_
    refine yM rfl rfl ?_
    refine yM rfl rfl ?_
    try dsimp only [St.put]
    refine af rfl (b9 rfl rfl rfl (by decide) (by decide) zR (by decide) ?_)
    try dsimp only [St.put]
    refine af rfl (cg ([(j : Int)]) rfl rfl zG zE rfl rfl zA ?_ zA)
    refine yA rfl rfl ?_
    refine yN ?_
    dsimp only [St.put]
    refine K22 _ ?_
    refine yR ?_
    refine aa rfl (bz rfl rfl rfl (by omega)) ?_
    refine yM rfl rfl ?_
    refine yN ?_
    dsimp only [St.put]
    have e := sq j fun i => A.testBit (4 + i)
    first
    | (have q : A.testBit (4 + j) = true := hb
       rw [q, cond_true] at e
       rw [← e]
       exact ⟨j + 1, by omega, by omega, ⟨⟨rfl, rfl⟩, zF, zB, zN, zX⟩⟩)
    | (have q : A.testBit (4 + j) = false := hb
       rw [q, cond_false, List.append_nil] at e
       rw [← e]
       exact ⟨j + 1, by omega, by omega, ⟨⟨rfl, rfl⟩, zF, zB, zN, zX⟩⟩)
   have hb : A.testBit (4 + j) = false := by
    have := of_decide_eq_false hc
    rw [bit_eq, Bool.not_eq_true] at this
    exact this
   refine ay ?_
   refine K22 _ ?_
   refine yR ?_
   refine aa rfl (bz rfl rfl rfl (by omega)) ?_
   refine yM rfl rfl ?_
   refine yN ?_
   dsimp only [St.put]
   have e := sq j fun i => A.testBit (4 + i)
   first
   | (have q : A.testBit (4 + j) = true := hb
      rw [q, cond_true] at e
      rw [← e]
      exact ⟨j + 1, by omega, by omega, ⟨⟨rfl, rfl⟩, zF, zB, zN, zX⟩⟩)
   | (have q : A.testBit (4 + j) = false := hb
      rw [q, cond_false, List.append_nil] at e
      rw [← e]
      exact ⟨j + 1, by omega, by omega, ⟨⟨rfl, rfl⟩, zF, zB, zN, zX⟩⟩)
  replace hc := of_decide_eq_false hc
  obtain rfl : j = p.seconds.length := by omega
  refine ra 11 (lst (ec p.firsts.length A)) rfl Wk.tok ?_
  refine ra 12 (lst (cz p.seconds.length fun i => A.testBit (4 + i))) rfl Wk.tok ?_
  have f1 := pp p.firsts.length A
  have f2 := uco p.seconds.length fun i => A.testBit (4 + i)
  have f3 := uab p (ep p)
  have f4 := uaa p (ep p)
  have f5 : (ep p).length ≤ bt p := zi (ng p) (bt p)
  have f6 : bt p = p.firsts.length + p.seconds.length := rfl
  have m1 : ∀ z ∈ ec p.firsts.length A, 0 ≤ z ∧ z < (p.firsts.length : Int) := fun z hz => ve (S := fun i => A.testBit i) z hz
  have m2 : ∀ z ∈ cz p.seconds.length fun i => A.testBit (4 + i), 0 ≤ z ∧ z < (p.seconds.length : Int) := fun z hz => ve z hz
  refine c7 ?_
  refine K18 _ ?_
  refine yS fun _ K25 => ?_
  refine yR ?_
  refine yE rfl rfl rfl ?_
  try dsimp only [St.put]
  refine af rfl ((ed rfl rfl rfl ((uk9 0 p hC)) zG (by dsimp only [St.put]; omega) ?_))
  refine yM rfl rfl ?_
  refine yX rfl rfl rfl rfl ?_
  refine yX rfl rfl rfl rfl ?_
  try dsimp only [St.put]
  refine af rfl (dx rfl ?_)
  try dsimp only [St.put]
  refine af rfl (dh rfl rfl rfl zG rfl rfl (by rfl) ?_)
  refine yA rfl rfl ?_
  refine yN ?_
  dsimp only [St.put]
  refine K25 _ ?_
  refine gh (i := 15) rfl zG zC ?_
  dsimp only
  refine yS fun _ K26 => ?_
  refine yS fun _ K27 => ?_
  refine yR ?_
  refine yM rfl rfl ?_
  refine aa rfl (d7 rfl rfl) ?_
  refine yN ?_
  dsimp only [St.put]
  refine K27 _ ?_
  refine av rfl (fun h => by cases h) (fun _ => ?_)
  refine ay ?_
  refine K26 _ ?_
  refine yS fun _ K28 => ?_
  refine yR ?_
  refine yE rfl rfl rfl ?_
  refine yE rfl rfl rfl ?_
  refine yM rfl rfl ?_
  refine yM rfl rfl ?_
  try dsimp only [St.put]
  refine af rfl (bc rfl rfl rfl (uc7 p (ec p.firsts.length A) (cz p.seconds.length fun i => A.testBit (4 + i)) hok m1 m2 (by omega) (by omega)) ?_)
  refine yA rfl rfl ?_
  refine yN ?_
  dsimp only [St.put]
  refine K28 _ ?_
  refine yS fun _ K29 => ?_
  refine yR ?_
  refine yA rfl rfl ?_
  refine yN ?_
  dsimp only [St.put]
  refine K29 _ ?_
  refine yS fun _ K30 => ?_
  refine g7 [(0, none), (1, none), (2, none), (3, none), (4, none), (5, none), (6, none), (7, none), (8, none), (9, none), (11, none), (12, none), (10, none), (13, none), (14, none), (15, none), (16, none), (17, none), (18, none), (19, none), (20, none), (21, none), (22, none), (23, none), (24, none), (25, none), (26, none), (27, none), (28, none), (29, none), (31, none), (32, none), (33, none), (30, none), (34, none), (35, none), (36, none), (37, none), (38, none), (39, none)] (fun i => [18, 24, 30, 34, 35].contains i) (fun i => [10, 18, 24, 30, 34, 35].contains i) (fun i => [0, 1, 2, 3, 4, 5, 8, 9, 11, 13, 14, 15, 16, 17, 19, 20, 21, 22, 23, 25, 26, 27, 28, 29, 31, 32, 33, 36, 37, 38, 39].contains i) [] (by kernel_rfl) (by kernel_rfl) ?_
  refine xM rfl rfl rfl rfl rfl ?_
  refine xM rfl rfl rfl rfl rfl ?_
  refine xM rfl rfl rfl rfl rfl ?_
  refine ae rfl rfl rfl rfl ((em (c := true) (fm rfl rfl rfl) (decide_eq_true rfl))) ?_
  refine ae rfl rfl rfl rfl (ci rfl rfl (by constructor)) ?_
  refine xM rfl rfl rfl rfl rfl ?_
  try dsimp only [St.put]
  refine bd rfl rfl rfl rfl (e8 rfl rfl (Enc.len _)) ?_
  try dsimp only [St.put]
  refine bd rfl rfl rfl rfl (e8 rfl rfl (Enc.len _)) ?_
  refine xM rfl rfl rfl rfl rfl ?_
  refine xM rfl rfl rfl rfl rfl ?_
  refine ae rfl rfl rfl rfl (cx rfl rfl rfl) ?_
  try dsimp only [St.put]
  refine bd rfl rfl rfl rfl (cm rfl rfl) ?_
  refine jo ?_
  try dsimp only [St.put]
  refine ka rfl rfl rfl (bc rfl rfl rfl (uc7 p (jk p (ep p)) (jd p (ep p)) hok w4 w5 (by omega) (by omega)) ⟨zD, ?_⟩)
  refine c8 rfl rfl rfl rfl ((em (c := true) (fm rfl rfl rfl) (decide_eq_true w1))) ?_
  refine c8 rfl rfl rfl rfl (ci rfl rfl (by constructor)) ?_
  refine c8 rfl rfl rfl rfl (fb rfl (by constructor)) ?_
  refine c8 rfl rfl rfl rfl (fb rfl (by constructor)) ?_
  refine c8 rfl rfl rfl rfl (cx rfl rfl rfl) ?_
  try dsimp only [St.put]
  refine g8 rfl rfl rfl rfl (SStep.e' (D := fun _ => True) (cm rfl rfl) ?_)
  refine c8 rfl rfl rfl rfl ((em (c := true) (lp rfl rfl rfl) (decide_eq_true w2))) ?_
  refine c8 rfl rfl rfl rfl (ci rfl rfl (by constructor)) ?_
  refine c8 rfl rfl rfl rfl (fb rfl (by constructor)) ?_
  refine c8 rfl rfl rfl rfl (fb rfl (by constructor)) ?_
  refine c8 rfl rfl rfl rfl (cx rfl rfl rfl) ?_
  try dsimp only [St.put]
  refine g8 rfl rfl rfl rfl (SStep.e' (D := fun _ => True) (cm rfl rfl) ?_)
  refine c8 rfl rfl rfl rfl (il rfl rfl rfl) ?_
  refine un3 (fun hs => ?_) (fun hs => ?_)
  ·skip
   refine c8 rfl rfl rfl rfl (fb rfl (by constructor)) ?_
   refine p9 rfl rfl rfl ?_
   refine p9 rfl rfl rfl ?_
   refine p9 rfl rfl rfl ?_
   refine p9 rfl rfl rfl ?_
   refine p9 rfl rfl rfl ?_
   refine p9 rfl rfl rfl ?_
   refine zq rfl rfl rfl ?_
   refine zq rfl rfl rfl ?_
   refine zq rfl rfl rfl ?_
   refine p9 rfl rfl rfl ?_
   refine c8 rfl rfl rfl rfl (ci rfl rfl (by constructor)) ?_
   refine c8 rfl rfl rfl rfl (ci rfl rfl (by constructor)) ?_
   refine c8 rfl rfl rfl rfl (fp rfl (by constructor)) ?_
   refine ji ?_
   dsimp only [St.put]
   refine K30 _ ?_
   refine ax ?_
   refine bf rfl (by constructor) zN zS ?_
   rfl
  have hle := of_decide_eq_false hs
  have hbf := w3 (by have w2' : lz p ≤ nl p (ec p.firsts.length A) (cz p.seconds.length fun i => A.testBit (4 + i)) [] := w2; show nl p (ec p.firsts.length A) (cz p.seconds.length fun i => A.testBit (4 + i)) [] = lz p; omega)
  refine c8 rfl rfl rfl rfl (fb rfl (by constructor)) ?_
  refine c8 rfl rfl rfl rfl (fb rfl (by constructor)) ?_
  refine c8 rfl rfl rfl rfl (fb rfl (by constructor)) ?_
  refine c8 rfl rfl rfl rfl (fb rfl (by constructor)) ?_
  refine c8 rfl rfl rfl rfl (fb rfl (by constructor)) ?_
  refine c8 rfl rfl rfl rfl (fb rfl (by constructor)) ?_
  refine c8 rfl rfl rfl rfl (fb rfl (by constructor)) ?_
  try dsimp only [St.put]
  refine g8 rfl rfl rfl rfl (bc rfl rfl rfl (uc8 (ec p.firsts.length A) (cz p.seconds.length fun i => A.testBit (4 + i)) (by omega) (by omega) (fun z hz => by have := m2 z hz; omega)) ?_)
  try dsimp only [St.put]
  refine g8 rfl rfl rfl rfl (bc rfl rfl rfl (uc8 (jk p (ep p)) (jd p (ep p)) (by omega) (by omega) (fun z hz => by have := w5 z hz; omega)) ?_)
  try dsimp only [St.put]
  refine g8 rfl rfl rfl rfl (bc rfl rfl rfl ((show AB.Pure Tryz.prog 34 _ (.v (.bool false)) from hbf ▸ uiq (ii (ec p.firsts.length A) (cz p.seconds.length fun i => A.testBit (4 + i))) (ii (jk p (ep p)) (jd p (ep p))) (by rw [zd]; omega) (by rw [zd]; omega))) ?_)
  refine c8 rfl rfl rfl rfl (d7 rfl rfl) ?_
  refine c8 rfl rfl rfl rfl (c5 rfl rfl (by constructor)) ?_
  refine c8 rfl rfl rfl rfl (ci rfl rfl (by constructor)) ?_
  refine c8 rfl rfl rfl rfl (fp rfl (by constructor)) ?_
  refine ji ?_
  dsimp only [St.put]
  refine K30 _ ?_
  refine ax ?_
  refine bf rfl (by constructor) zN zS ?_
  rfl
 have hT0 : i6 p = false := by simpa using hT
 have hL : fo p (cv p) = 8 := by rw [hL0, hT0]; rfl
 refine yR ?_
 refine yE rfl rfl rfl ?_
 try dsimp only [St.put]
 refine af rfl ((ed rfl rfl rfl ((xq 0 p)) zG (by dsimp only [St.put]; omega) ?_))
 refine yM rfl rfl ?_
 refine yX rfl rfl rfl rfl ?_
 refine yX rfl rfl rfl rfl ?_
 refine yX rfl rfl rfl rfl ?_
 refine yA rfl rfl ?_
 refine yA rfl rfl ?_
 refine yA rfl rfl ?_
 refine yN ?_
 dsimp only [St.put]
 refine K6 _ ?_
 refine yS fun _ K31 => ?_
 refine yR ?_
 refine yE rfl rfl rfl ?_
 try dsimp only [St.put]
 refine af rfl ((ed rfl rfl rfl ((xr 0 p)) zG (by dsimp only [St.put]; omega) ?_))
 refine yM rfl rfl ?_
 refine yX rfl rfl rfl rfl ?_
 refine yX rfl rfl rfl rfl ?_
 try dsimp only [St.put]
 refine af rfl (dx rfl ?_)
 try dsimp only [St.put]
 refine af rfl (dh rfl rfl rfl zG rfl rfl (by rfl) ?_)
 refine yA rfl rfl ?_
 refine yN ?_
 dsimp only [St.put]
 refine K31 _ ?_
 refine gh (i := 9) rfl zG zC ?_
 dsimp only
 refine yS fun _ K32 => ?_
 refine yS fun _ K33 => ?_
 refine yR ?_
 refine yM rfl rfl ?_
 refine aa rfl ((em (c := true) (fl rfl rfl rfl) (by rw [hL]; rfl))) ?_
 refine yN ?_
 dsimp only [St.put]
 refine K33 _ ?_
 refine av rfl (fun _ => ?_) (fun h => by cases h)
 refine yS fun _ K34 => ?_
 refine yR ?_
 refine yM rfl rfl ?_
 refine yM rfl rfl ?_
 refine yM rfl rfl ?_
 refine aa rfl ((em (c := true) (fm rfl rfl rfl) (decide_eq_true hL))) ?_
 refine aa rfl (ci rfl rfl (by constructor)) ?_
 refine yM rfl rfl ?_
 refine yM rfl rfl ?_
 refine yM rfl rfl ?_
 refine aa rfl ((em (c := true) (fm rfl rfl rfl) (decide_eq_true rfl))) ?_
 refine aa rfl (ci rfl rfl (by constructor)) ?_
 refine yA rfl rfl ?_
 refine yN ?_
 dsimp only [St.put]
 refine K34 _ ?_
 refine ax ?_
 refine bf rfl (by constructor) zN zS ?_
 rfl
end Go.Proofs.YtbbdginipiljdaaGreatDoor
namespace Go.AB
open Go Go.RowKit Go.ChangeShapes Go.WideShapes
end Go.AB
namespace Go.Proofs.YtbbdginipiljdaaGreatDoor
set_option maxRecDepth 10000
open Go.ChangeShapes Go.WideShapes Go.ChangeAt Go.RowKit Go.AB
open Go.AB.Enc (cells)
open Go.PB (ba ai PlaceD bh bj bi)
instance : OpensE Tryz.prog 3 Int := .int (by kernel_rfl)
instance : OpensE Tryz.prog 9 ByteArray := .str (by kernel_rfl)
instance : OpensE Tryz.prog 130 (List ByteArray) := .slice (e := 9) (by kernel_rfl) (by decide)
instance : OpensE Tryz.prog 127 (List (List ByteArray)) := .slice (e := 130) (by kernel_rfl) (by decide)
instance : OpensE Tryz.prog 129 ba := .chap (tI := 3) (tL := 127) (by kernel_rfl)
instance : OpensE Tryz.prog 22 (List ba) := .slice (e := 129) (by kernel_rfl) (by decide)
theorem ugr : js Tryz.prog 24 [(0, 22, 1)] 1 = true := by kernel_rfl
instance : OpensE Tryz.prog 24 (List ba) := .one (e := 22) ugr
theorem uir : js Tryz.prog 61 [(0, 3, 1), (1, 3, 1), (2, 3, 1)] 3 = true := by kernel_rfl
instance : OpensE Tryz.prog 61 PlaceD := .place (tI := 3) uir
theorem um0 : Tryz.prog.underlying 4 = some .bool := by kernel_rfl
theorem ownZ : ownKnob Tryz.prog.godebug = none := by kernel_rfl
end Go.Proofs.YtbbdginipiljdaaGreatDoor
namespace Go.AB
open Go Go.RowKit Go.ChangeShapes Go.WideShapes
open Go.AB.Enc (cells)
open Go.PB (ba ai PlaceD bh bj bi bw aw ah cw br)
theorem OpensE.reader {P : Program} {t tI : TypeId} [oI : OpensE P tI Int] (h : js P t [(0, tI, 1), (1, tI, 1)] 2 = true) : OpensE P t bw :=
 .struct (α := bw) h fun w cs hl hp => by
  obtain ⟨a, ha⟩ := hp (0, tI, 1) (by simp) Int inferInstance oI
  obtain ⟨b, hb⟩ := hp (1, tI, 1) (by simp) Int inferInstance oI
  match cs, hl with
  | [u, v], _ => exact ⟨⟨a, b⟩, Rs.cons (Rs.single_inv ha) hb⟩
theorem OpensE.page {P : Program} {t tI tL : TypeId} [oI : OpensE P tI Int] [oL : OpensE P tL (List PlaceD)] (h : js P t [(0, tI, 1), (1, tI, 1), (2, tI, 1), (3, tI, 1), (4, tL, 1), (5, tL, 1)] 6 = true) : OpensE P t aw :=
 .struct (α := aw) h fun w cs hl hp => by
  obtain ⟨a, ha⟩ := hp (0, tI, 1) (by simp) Int inferInstance oI
  obtain ⟨b, hb⟩ := hp (1, tI, 1) (by simp) Int inferInstance oI
  obtain ⟨c, hc⟩ := hp (2, tI, 1) (by simp) Int inferInstance oI
  obtain ⟨d, hd⟩ := hp (3, tI, 1) (by simp) Int inferInstance oI
  obtain ⟨e, he⟩ := hp (4, tL, 1) (by simp) (List PlaceD) inferInstance oL
  obtain ⟨f, hf⟩ := hp (5, tL, 1) (by simp) (List PlaceD) inferInstance oL
  match cs, hl with
  | [u0, u1, u2, u3, u4, u5], _ => exact ⟨⟨a, b, c, d, e, f⟩, Rs.cons (Rs.single_inv ha) (Rs.cons (Rs.single_inv hb) (Rs.cons (Rs.single_inv hc) (Rs.cons (Rs.single_inv hd) (Rs.cons (Rs.single_inv he) hf))))⟩
theorem OpensE.proofs {P : Program} {t tT tR tP : TypeId} [oT : OpensE P tT (List ba)] [oR : OpensE P tR (List bw)] [oP : OpensE P tP (List aw)] (h : js P t [(0, tT, 1), (1, tR, 1), (2, tR, 1), (3, tP, 1)] 4 = true) : OpensE P t ah :=
 .struct (α := ah) h fun w cs hl hp => by
  obtain ⟨a, ha⟩ := hp (0, tT, 1) (by simp) (List ba) inferInstance oT
  obtain ⟨b, hb⟩ := hp (1, tR, 1) (by simp) (List bw) inferInstance oR
  obtain ⟨c, hc⟩ := hp (2, tR, 1) (by simp) (List bw) inferInstance oR
  obtain ⟨d, hd⟩ := hp (3, tP, 1) (by simp) (List aw) inferInstance oP
  match cs, hl with
  | [u0, u1, u2, u3], _ => exact ⟨⟨a, b, c, d⟩, Rs.cons (Rs.single_inv ha) (Rs.cons (Rs.single_inv hb) (Rs.cons (Rs.single_inv hc) hd))⟩
end Go.AB
namespace Go.AB
open Go Go.RowKit Go.ChangeShapes Go.WideShapes
open Go.AB.Enc (cells)
open Go.PB (ba ai PlaceD bw aw ah cw br)
def udp (P : Program) (t : TypeId) : Bool := match P.underlying t with | some (.func _ _ _) => true | _ => false
theorem yw {P : Program} {t : TypeId} (h : udp P t = true) : ∃ ps rs va, P.underlying t = some (.func ps rs va) := by
 unfold udp at h
 split at h
 ·rename_i ps rs va he; exact ⟨ps, rs, va, he⟩
 ·cases h
/-- Functions that lie in a variable's cells. -/
theorem ul2 {W : World} {b : Nat} {cs : List C} (hne : cs ≠ []) (hone : ∀ c ∈ cs, c.one = true) (us : Nat → Value) (hc : ∀ j, j < cs.length → W.cell? ⟨b, j, none⟩ = some (us j)) (hr : ∀ j c, cs[j]? = some c → R (jx W) W c (us j)) : R (jx W) W (.elem cs) (.pointer (some ⟨b, 0, none⟩)) := by
 have hl : 0 < cs.length := List.length_pos_iff.2 hne
 refine .elem hne hone (.inr ⟨b, 0, rfl, ?_, fun j hj => by rw [Nat.zero_add]; exact hc j hj⟩) hr
 have := uen (hc (cs.length - 1) (by omega))
 show 0 + cs.length ≤ pz W b
 omega
theorem ukz {P : Program} {f : FuncId} {cs : List C} {v gv : Value} {gc : C} (hp : fa 0 (.fact gv gc) P f cs (.v v)) {w : World} {args : List Value} (hK : R (jx w) w gc gv) (hr : Rs (jx w) w cs args) :
  Calls P f args.toArray w fun e w' => e = .returned v ∧ Below w.heap.size w w' :=
 uk0 (fun G nx hG => by
  intro E w' as' hrs hsg
  exact hp G nx hG (by obtain ⟨t, _⟩ := hsg.obj 0 _ hG; have := hsg.lt 0 _ t; rw [hsg.nx] at this; exact this) E w' as' hrs hsg) hK hr
/-- a cell of a function's type, as it reads -/
theorem qu {P : Program} {W : World} {t : TypeId} {ps rs : Array TypeId} {va : Bool} {v : Value} {b : UInt8} {r : List UInt8} {f0 : FuncId} (hu : P.underlying t = some (.func ps rs va)) (hv : IsFunc v) (hd : veil (funcToken P) t v = .held (b :: r))
  (hone : ((List.range P.funcs.size).filter fun f => (P.funcs[f]?).any (·.name.toUTF8.data.toList == b :: r)) = [f0]) : v = .func (.func f0) #[] #[] :=
 Go.func_of_trod (w := W) (base := 0) (sp := fun _ => true) (fuel := 1) (q := []) hu hone (by
  have := trod_func (enc := funcToken P) hu (W := W) (base := 0) (sp := fun _ => true) hv 0
  rw [hd] at this
  exact this)
end Go.AB
namespace Go.Proofs.YtbbdginipiljdaaGreatDoor
set_option maxRecDepth 10000
open Go.ChangeShapes Go.WideShapes Go.ChangeAt Go.RowKit Go.AB
open Go.AB.Enc (cells)
open Go.PB (ba ai PlaceD bw aw ah cw br)
instance : OpensE Tryz.prog 67 bw := .reader (tI := 3) (by kernel_rfl)
instance : OpensE Tryz.prog 25 (List bw) := .slice (e := 67) (by kernel_rfl) (by decide)
instance : OpensE Tryz.prog 56 (List PlaceD) := .slice (e := 61) (by kernel_rfl) (by decide)
instance : OpensE Tryz.prog 58 aw := .page (tI := 3) (tL := 56) (by kernel_rfl)
instance : OpensE Tryz.prog 26 (List aw) := .slice (e := 58) (by kernel_rfl) (by decide)
theorem ubh : js Tryz.prog 28 [(0, 24, 1), (1, 25, 1), (2, 25, 1), (3, 26, 1)] 4 = true := by kernel_rfl
instance : OpensE Tryz.prog 28 ah := .proofs (tT := 24) (tR := 25) (tP := 26) ubh
theorem u8OkL : s9 Tryz.prog 5 .u8 = true := by kernel_rfl
theorem gSides : Tryz.prog.globalNamed "postil/proof.sides" = some 0 := by kernel_rfl
theorem tSides : (Tryz.prog.globals[0]?).map (·.type) = some 141 := by kernel_rfl
theorem ugk : Tryz.prog.underlying 141 = some (.array 2 140) := by kernel_rfl
theorem umw : Tryz.prog.cellsOf 141 = 6 := by kernel_rfl
theorem ueq : Tryz.prog.cellsOf 140 = 3 := by kernel_rfl
theorem uay : js Tryz.prog 140 [(0, 136, 1), (1, 137, 1), (2, 138, 1)] 3 = true := by kernel_rfl
theorem udz : ∃ ps rs va, Tryz.prog.underlying 136 = some (.func ps rs va) := yw (by kernel_rfl)
theorem ud1 : ∃ ps rs va, Tryz.prog.underlying 137 = some (.func ps rs va) := yw (by kernel_rfl)
theorem ud0 : ∃ ps rs va, Tryz.prog.underlying 138 = some (.func ps rs va) := yw (by kernel_rfl)
theorem uau {W : World} {m : Nat} {cs : List Value} {y : DataW (List UInt8) × List MemPlace} {d0 d1 d2 : DataW (List UInt8)} (hy : y.1 = .agg [d0, d1, d2])
  (h : DataW.trod (funcToken Tryz.prog) Tryz.prog W 0 (fun _ => true) true m 140 cs = some y) : ∃ v0 v1 v2, cs = [v0, v1, v2] ∧ (IsFunc v0 ∧ veil (funcToken Tryz.prog) 136 v0 = d0) ∧ (IsFunc v1 ∧ veil (funcToken Tryz.prog) 137 v1 = d1) ∧ (IsFunc v2 ∧ veil (funcToken Tryz.prog) 138 v2 = d2) := by
 obtain ⟨_, fs, he⟩ := uc uay
 obtain ⟨xs, m', _, e1, hl, hlen, hf⟩ := DataW.trod_struct he h
 rw [ueq] at hl
 have hfs : fs.toList.map (fun f => (f.offset, f.type, Tryz.prog.cellsOf f.type)) = [(0, 136, 1), (1, 137, 1), (2, 138, 1)] := by
  have := uay
  unfold js at this
  rw [he] at this
  simp only [Bool.and_eq_true, beq_iff_eq] at this
  exact this.1
 obtain ⟨l⟩ := fs
 match l, hfs with
 | [f0, f1, f2], hfs =>
  simp only [List.map_cons, List.map_nil, List.cons.injEq, Prod.mk.injEq, and_true] at hfs
  obtain ⟨⟨a1, a2, a3⟩, ⟨b1, b2, b3⟩, ⟨c1, c2, c3⟩⟩ := hfs
  have h0 := hf 0 f0 rfl
  have h1 := hf 1 f1 rfl
  have h2 := hf 2 f2 rfl
  match cs, hl with
  | [u0, u1, u2], _ =>
   match xs, hlen with
   | [x0, x1, x2], _ =>
    subst e1
    simp only [List.map_cons, List.map_nil, DataW.agg.injEq, List.cons.injEq, and_true] at hy
    rw [a3, a1, a2] at h0
    rw [b3, b1, b2] at h1
    rw [c3, c1, c2] at h2
    obtain ⟨ps, rs, va, hu⟩ := udz
    obtain ⟨ps', rs', va', hu'⟩ := ud1
    obtain ⟨ps2, rs2, va2, hu2⟩ := ud0
    obtain ⟨v0, q0, q1, q2⟩ := Go.RowKit.func_of_trod hu h0
    obtain ⟨v1, q3, q4, q5⟩ := Go.RowKit.func_of_trod hu' h1
    obtain ⟨v2, q6, q7, q8⟩ := Go.RowKit.func_of_trod hu2 h2
    have e0 : u0 = v0 := by simpa using q0
    have e1 : u1 = v1 := by simpa using q3
    have e2 : u2 = v2 := by simpa using q6
    subst e0; subst e1; subst e2
    have hx0 : x0 = (veil (funcToken Tryz.prog) 136 u0, []) := by simpa using q2
    have hx1 : x1 = (veil (funcToken Tryz.prog) 137 u1, []) := by simpa using q5
    have hx2 : x2 = (veil (funcToken Tryz.prog) 138 u2, []) := by simpa using q8
    subst hx0; subst hx1; subst hx2
    obtain ⟨k0, k1, k2⟩ := hy
    exact ⟨u0, u1, u2, rfl, ⟨q1, k0⟩, ⟨q4, k1⟩, ⟨q7, k2⟩⟩
 | [], hfs => exact absurd hfs (by simp)
 | [_], hfs => exact absurd hfs (by simp)
 | [_, _], hfs => exact absurd hfs (by simp)
 | _ :: _ :: _ :: _ :: _, hfs => exact absurd hfs (by simp)
theorem uhe {W : World} (h : funcsAt Tryz.prog W "postil/proof.sides" (.agg [.agg [.iface "func" (.lit (.string [112, 111, 115, 116, 105, 108, 47, 112, 114, 111, 111, 102, 46, 115, 105, 100, 101, 115, 36, 49])), .iface "func" (.lit (.string [112, 111, 115, 116, 105, 108, 47, 112, 114, 111, 111, 102, 46, 115, 105, 100, 101, 115, 36, 50])), .iface "func" (.lit (.string [112, 111, 115, 116, 105, 108, 47, 112, 114, 111, 111, 102, 46, 115, 105, 100, 101, 115, 36, 51]))], .agg [.iface "func" (.lit (.string [112, 111, 115, 116, 105, 108, 47, 112, 114, 111, 111, 102, 46, 115, 105, 100, 101, 115, 36, 52])), .iface "func" (.lit (.string [112, 111, 115, 116, 105, 108, 47, 112, 114, 111, 111, 102, 46, 115, 105, 100, 101, 115, 36, 53])), .iface "func" (.lit (.string [112, 111, 115, 116, 105, 108, 47, 112, 114, 111, 111, 102, 46, 115, 105, 100, 101, 115, 36, 54]))]])) : R (jx W) W (.elem sidL) (.pointer (some ⟨0, 0, none⟩)) := by
 obtain ⟨g, t, cs, fuel, p, hg, ht, hv, hd⟩ := h
 obtain rfl := Option.some.inj (gSides.symm.trans hg)
 obtain rfl := Option.some.inj (tSides.symm.trans ht)
 obtain ⟨xs, m, _, e1, hl, hn, hel⟩ := DataW.trod_array ugk hd
 rw [umw] at hl
 rw [ueq] at hel
 have hcell := fun i => World.var?_cell hg hv i
 obtain ⟨l⟩ := cs
 dsimp only at hl hel hcell
 match l, hl with
 | [u0, u1, u2, u3, u4, u5], _ =>
  match xs, hn with
  | [x0, x1], _ =>
   simp only [Prod.mk.injEq] at e1
   have e2 : (.agg [.agg [.held [112, 111, 115, 116, 105, 108, 47, 112, 114, 111, 111, 102, 46, 115, 105, 100, 101, 115, 36, 49], .held [112, 111, 115, 116, 105, 108, 47, 112, 114, 111, 111, 102, 46, 115, 105, 100, 101, 115, 36, 50], .held [112, 111, 115, 116, 105, 108, 47, 112, 114, 111, 111, 102, 46, 115, 105, 100, 101, 115, 36, 51]], .agg [.held [112, 111, 115, 116, 105, 108, 47, 112, 114, 111, 111, 102, 46, 115, 105, 100, 101, 115, 36, 52], .held [112, 111, 115, 116, 105, 108, 47, 112, 114, 111, 111, 102, 46, 115, 105, 100, 101, 115, 36, 53], .held [112, 111, 115, 116, 105, 108, 47, 112, 114, 111, 111, 102, 46, 115, 105, 100, 101, 115, 36, 54]]] : DataW (List UInt8)) = .agg [x0.1, x1.1] := e1.1
   simp only [DataW.agg.injEq, List.cons.injEq, and_true] at e2
   obtain ⟨a0, a1, a2, q0, ⟨a3, a4⟩, ⟨a5, a6⟩, ⟨a7, a8⟩⟩ := uau e2.1.symm (hel 0 (by omega))
   obtain ⟨b0, b1, b2, q1, ⟨b3, b4⟩, ⟨b5, b6⟩, ⟨b7, b8⟩⟩ := uau e2.2.symm (hel 1 (by omega))
   simp only [Nat.zero_mul, Nat.one_mul, List.drop_zero, List.drop_succ_cons, List.take_succ_cons, List.take_zero, List.cons.injEq, and_true] at q0 q1
   obtain ⟨rfl, rfl, rfl⟩ := q0
   obtain ⟨rfl, rfl, rfl⟩ := q1
   obtain ⟨ps, rs, va, hu⟩ := udz
   obtain ⟨ps', rs', va', hu'⟩ := ud1
   obtain ⟨ps2, rs2, va2, hu2⟩ := ud0
   obtain rfl := qu (W := W) (f0 := 157) hu a3 a4 (by kernel_rfl)
   obtain rfl := qu (W := W) (f0 := 158) hu' a5 a6 (by kernel_rfl)
   obtain rfl := qu (W := W) (f0 := 159) hu2 a7 a8 (by kernel_rfl)
   obtain rfl := qu (W := W) (f0 := 160) hu b3 b4 (by kernel_rfl)
   obtain rfl := qu (W := W) (f0 := 161) hu' b5 b6 (by kernel_rfl)
   obtain rfl := qu (W := W) (f0 := 162) hu2 b7 b8 (by kernel_rfl)
   let L : List Value := [.func (.func 157) #[] #[], .func (.func 158) #[] #[], .func (.func 159) #[] #[], .func (.func 160) #[] #[], .func (.func 161) #[] #[], .func (.func 162) #[] #[]]
   refine ul2 (by simp [sidL, nh]) (by intro c hc; simp only [sidL, nh, List.cons_append, List.nil_append, List.mem_cons, List.not_mem_nil, or_false] at hc; rcases hc with rfl | rfl | rfl | rfl | rfl | rfl <;> rfl) (fun j => L.getD j undef) (fun j hj => ?_) (fun j c hc => ?_)
   ·have := hcell j
    have hj' : j < 6 := hj
    rw [this]
    show (L.toArray)[j]? = _
    rw [List.getElem?_toArray, List.getD_eq_getElem?_getD, List.getElem?_eq_getElem (show j < L.length from hj')]
    rfl
   ·match j, hc with
    | 0, hc => cases hc; exact Rs.fn (vs := []) Rs.nil
    | 1, hc => cases hc; exact Rs.fn (vs := []) Rs.nil
    | 2, hc => cases hc; exact Rs.fn (vs := []) Rs.nil
    | 3, hc => cases hc; exact Rs.fn (vs := []) Rs.nil
    | 4, hc => cases hc; exact Rs.fn (vs := []) Rs.nil
    | 5, hc => cases hc; exact Rs.fn (vs := []) Rs.nil
abbrev s7 : List (String × DataW Unit) := [("postil/proof.sides", Rows.laid_postil_proof_sides)]
set_option maxRecDepth 100000 in
/-- The door's own heap meets the condition. -/
theorem ume (os : Os) (args : Array Value) : laidMetH Tryz.prog s7 ((World.doorLaid Tryz.prog 600 os).forCall (fun _ _ => 0) ⟨#[], args, []⟩).memory :=
 laidMetH_of_parts3 (fuel := 8) (laidMet_of_run' 8 (by kernel_rfl) (by kernel_rfl)) (by kernel_rfl) (by kernel_rfl)
theorem uhd {W : World} (h : laidMetH Tryz.prog s7 W) : R (jx W) W (.elem sidL) (.pointer (some ⟨0, 0, none⟩)) := uhe (h.funcs (List.mem_cons_self ..))
end Go.Proofs.YtbbdginipiljdaaGreatDoor
namespace Go.AB
open Go Go.RowKit Go.ChangeShapes Go.WideShapes
section
variable {H : Type} {enc : TypeId × Value → H} {P : Program} {w : World} {base : Nat} {spare : Nat → Bool} {held : Bool}
end
end Go.AB
