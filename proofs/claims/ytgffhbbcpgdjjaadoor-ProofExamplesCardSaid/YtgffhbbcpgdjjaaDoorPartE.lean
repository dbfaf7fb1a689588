/-
  What the walks through the program rest on: values, states, steps, calls (SaAlive, PkGuess, SbFacts, SdSums, SpExamples, OpenL, OpenW, OpenS, Trod).
-/
import Derived.Test.YtgffhbbcpgdjjaaDoorPartC
import Derived.Test.YtgffhbbcpgdjjaaDoorPartD
import Derived.Test.YtgffhbbcpgdjjaaDoorPartB
import Derived.Test.YtgffhbbcpgdjjaaDoorRows
import Derived.LaidMore
import Derived.RowKitVeiled
import Derived.Carry
namespace Go.AB
open Go Go.RowKit
open Go.AB.Enc (cells)
open Go.PB (aq ah PlaceD av ax aw bg am af cb ba cr c4)
section
variable {P : Program} {o : Oper} {st : St} {K : St → Prop}
/-- What stands in a slot is known less well, ahead of an operation. -/
theorem e_wk (i : Nat) {c : C} (c' : C) (h0 : st.at i = c) (hw : Wk c c') (h : EStep P o { st with r := (i, c') :: st.r } K) : EStep P o st K := by
 intro E w a hs
 have hp := hs.at i
 rw [h0] at hp
 refine h E w a ⟨hs.d, hs.sz, fun j v hj => ?_, hs.g⟩
 simp only [ca]
 cases hb : Nat.beq i j
 ·exact hs.t j v hj
 ·have hij := Nat.eq_of_beq_eq_true hb
  subst hij
  have hv : a.tmps.getD i undef = v := by rw [Array.getD_eq_getD_getElem?, hj]; rfl
  rw [hv] at hp
  exact hw.2 _ _ _ hp
end
theorem gu {α : Type} [Enc α] (l : List α) : ∀ r ∈ l.map cells, r.length = Enc.n α := fun r hr => by
 obtain ⟨y, _, rfl⟩ := List.mem_map.1 hr
 exact Enc.len y
end Go.AB
namespace Go.Proofs.YtgffhbbcpgdjjaaDoor
set_option maxRecDepth 10000
open Go Go.RowKit Go.AB
open Go.AB.Enc (cells)
open Go.PB (aq ah PlaceD av ax aw bg am af cb ba cr c4)
theorem ubc (a : List PlaceD) : Pure Tryd.prog 14 [lst a, lst a] (.v (.bool true)) := by
 have := ulo a a
 rwa [decide_eq_true rfl] at this
theorem ubd (a : List Int) (ha : a.length ≤ 1000) : Pure Tryd.prog 24 [lst a, lst a] (.v (.bool true)) := by
 have := zh a a ha
 rwa [decide_eq_true rfl] at this
theorem kr (a b c : Int) : Pure Tryd.prog 59 [.v (.int .i64 a), .v (.int .i64 b), .v (.int .i64 c)] (val (⟨a, b, c⟩ : PlaceD)) := by
 refine dr Tryd.func59 rfl (fun m => (dz _ _)) fun G nx => ?_
 simp only [Tryd.ntmps59, List.length_cons, List.length_nil, Nat.reduceAdd, Nat.reduceSub]
 refine bv fun hlt => ?_
 dsimp only at hlt
 refine br fun K1 hK1 => ?_
 refine bj ?_
 try dsimp only [St.put]
 refine ab rfl (dg rfl ?_)
 refine bf ?_
 dsimp only [St.put]
 refine hK1 _ ?_
 refine br fun K2 hK2 => ?_
 refine bj ?_
 refine aa rfl (ar rfl (by constructor)) ?_
 refine aa rfl (ar rfl (by constructor)) ?_
 refine aa rfl (ar rfl (by constructor)) ?_
 refine aa rfl (fh rfl rfl) ?_
 try dsimp only [St.put]
 first | refine ab rfl (cn rfl rfl rfl zG rfl rfl (by rfl) ?_) | refine ab rfl (gi rfl rfl rfl zG (by constructor) rfl zO ?_)
 refine bf ?_
 dsimp only [St.put]
 refine hK2 _ ?_
 refine ay ?_
 refine ox rfl (i6 rfl zG (by rfl) zC rfl) zN zS ?_
 exact zW
theorem nh (l : List PlaceD) : Pure Tryd.prog 58 [lst l] (lst l) := by
 refine dr Tryd.func58 rfl (fun m => (bd _ _)) fun G nx => ?_
 simp only [Tryd.ntmps58, List.length_cons, List.length_nil, Nat.reduceAdd, Nat.reduceSub]
 refine bv fun hlt => ?_
 dsimp only at hlt
 refine br fun K1 hK1 => ?_
 refine bj ?_
 refine aa rfl (bq rfl (by constructor)) ?_
 refine bf ?_
 dsimp only [St.put]
 refine hK1 _ ?_
 refine br fun K2 hK2 => ?_
 refine bj ?_
 refine aa rfl (ar rfl (by constructor)) ?_
 refine aa rfl (bq rfl (by constructor)) ?_
 refine bf ?_
 dsimp only [St.put]
 refine hK2 _ ?_
 refine ay ?_
 refine cg rfl (by constructor) zN zS ?_
 rfl
theorem i9 : Pure Tryd.prog 28 [] (val exPr) := by
 refine dr Tryd.func28 rfl (fun m => (dz _ _)) fun G nx => ?_
 simp only [Tryd.ntmps28, List.length_cons, List.length_nil, Nat.reduceAdd, Nat.reduceSub]
 refine bv fun hlt => ?_
 dsimp only at hlt
 refine br fun K1 hK1 => ?_
 refine bj ?_
 try dsimp only [St.put]
 refine ab rfl (dg rfl ?_)
 refine bf ?_
 dsimp only [St.put]
 refine hK1 _ ?_
 refine br fun K2 hK2 => ?_
 refine bj ?_
 try dsimp only [St.put]
 refine ab rfl (cy (rows := ([il, er, xIs, im] : List ByteArray).map cells) rfl rfl rfl (by decide) (by decide) (gu _) (by decide) ?_)
 try dsimp only [St.put]
 refine ab rfl (cy (rows := ([im, il, er] : List ByteArray).map cells) rfl rfl rfl (by decide) (by decide) (gu _) (by decide) ?_)
 try dsimp only [St.put]
 refine ab rfl (cy (rows := ([[il, er, xIs, im], [im, il, er]] : List (List ByteArray)).map cells) rfl rfl rfl (by decide) (by decide) (gu _) (by decide) ?_)
 refine aa rfl (fh (cs := cells (⟨7, [[il, er, xIs, im], [im, il, er]]⟩ : aq)) rfl rfl) ?_
 try dsimp only [St.put]
 refine ab rfl (cy (rows := ([er, l6, er] : List ByteArray).map cells) rfl rfl rfl (by decide) (by decide) (gu _) (by decide) ?_)
 try dsimp only [St.put]
 refine ab rfl (cy (rows := ([[er, l6, er]] : List (List ByteArray)).map cells) rfl rfl rfl (by decide) (by decide) (gu _) (by decide) ?_)
 refine aa rfl (fh (cs := cells (⟨3, [[er, l6, er]]⟩ : aq)) rfl rfl) ?_
 try dsimp only [St.put]
 refine ab rfl (cy (rows := ([⟨7, [[il, er, xIs, im], [im, il, er]]⟩, ⟨3, [[er, l6, er]]⟩] : List aq).map cells) rfl rfl rfl (by decide) (by decide) (gu _) (by decide) ?_)
 refine aa rfl (fh (cs := [lst nm]) rfl rfl) ?_
 refine aa rfl (fh (cs := cells (⟨1, 50⟩ : bg)) rfl rfl) ?_
 refine aa rfl (fh (cs := cells (⟨2, 0⟩ : bg)) rfl rfl) ?_
 try dsimp only [St.put]
 refine ab rfl (cy (rows := ([⟨1, 50⟩, ⟨2, 0⟩] : List bg).map cells) rfl rfl rfl (by decide) (by decide) (gu _) (by decide) ?_)
 refine aa rfl (fh (cs := cells (⟨3, 60⟩ : bg)) rfl rfl) ?_
 try dsimp only [St.put]
 refine ab rfl (cy (rows := ([⟨3, 60⟩] : List bg).map cells) rfl rfl rfl (by decide) (by decide) (gu _) (by decide) ?_)
 try dsimp only [St.put]
 refine ab rfl (az rfl rfl rfl (kr _ _ _) ?_)
 try dsimp only [St.put]
 refine ab rfl (cy (rows := ([⟨0, 0, 0⟩] : List PlaceD).map cells) rfl rfl rfl (by decide) (by decide) (gu _) (by decide) ?_)
 try dsimp only [St.put]
 refine ab rfl (az rfl rfl rfl (nh [⟨0, 0, 0⟩]) ?_)
 try dsimp only [St.put]
 refine ab rfl (az rfl rfl rfl (kr _ _ _) ?_)
 try dsimp only [St.put]
 refine ab rfl (az rfl rfl rfl (kr _ _ _) ?_)
 try dsimp only [St.put]
 refine ab rfl (cy (rows := ([⟨0, 0, 0⟩, ⟨0, 0, 3⟩] : List PlaceD).map cells) rfl rfl rfl (by decide) (by decide) (gu _) (by decide) ?_)
 try dsimp only [St.put]
 refine ab rfl (az rfl rfl rfl (nh [⟨0, 0, 0⟩, ⟨0, 0, 3⟩]) ?_)
 refine aa rfl (fh (cs := cells (⟨0, 0, 0, 0, [⟨0, 0, 0⟩], [⟨0, 0, 0⟩, ⟨0, 0, 3⟩]⟩ : am)) rfl rfl) ?_
 try dsimp only [St.put]
 refine ab rfl (az rfl rfl rfl (kr _ _ _) ?_)
 try dsimp only [St.put]
 refine ab rfl (cy (rows := ([⟨0, 1, 1⟩] : List PlaceD).map cells) rfl rfl rfl (by decide) (by decide) (gu _) (by decide) ?_)
 try dsimp only [St.put]
 refine ab rfl (az rfl rfl rfl (nh [⟨0, 1, 1⟩]) ?_)
 refine aa rfl (fh (cs := [.v (.int .i64 1), .v (.int .i64 2), .v (.int .i64 0), .v (.int .i64 (-1)), lst ([⟨0, 1, 1⟩] : List PlaceD), .list [] .nil]) rfl rfl) ?_
 try dsimp only [St.put]
 refine ab rfl (e_wk 26 (val (⟨1, 2, 0, -1, [⟨0, 1, 1⟩], []⟩ : am)) rfl (by show Wk _ (.agg _); exact zW) ?_)
 dsimp only
 refine cy (rows := ([⟨0, 0, 0, 0, [⟨0, 0, 0⟩], [⟨0, 0, 0⟩, ⟨0, 0, 3⟩]⟩, ⟨1, 2, 0, -1, [⟨0, 1, 1⟩], []⟩] : List am).map cells) rfl rfl rfl (by decide) (by decide) (gu _) (by decide) ?_
 refine aa rfl (fh (cs := [lst nm, lst exPr.firsts, lst exPr.seconds, lst exPr.pages]) rfl rfl) ?_
 try dsimp only [St.put]
 first | refine ab rfl (cn rfl rfl rfl zG rfl rfl (by rfl) ?_) | refine ab rfl (gi rfl rfl rfl zG (by constructor) rfl zO ?_)
 refine bf ?_
 dsimp only [St.put]
 refine hK2 _ ?_
 refine ay ?_
 refine ox rfl (i6 rfl zG (by rfl) zC rfl) zN zS ?_
 exact zW
theorem ubg (n : Nat) (b : Bool) (r want : Int) : PureS n eg Tryd.prog 26 [.v (.bool b), .v (.int .i64 r), .v (.int .i64 want)] (.v (.bool (decide (i5 exPr b r = 0) && decide (l0 exPr b r = want)))) := fun G nx hF hnx => by
 refine gk (G) (nx) Tryd.func26 rfl (.v) zN (fun hlt => zH) ?_
 simp only [Tryd.ntmps26, List.length_cons, List.length_nil, Nat.reduceAdd, Nat.reduceSub]
 refine bv fun hlt => ?_
 dsimp only at hlt
 refine br fun K1 hK1 => ?_
 refine bj ?_
 refine aa rfl (bq rfl (by constructor)) ?_
 refine bf ?_
 dsimp only [St.put]
 refine hK1 _ ?_
 refine br fun K2 hK2 => ?_
 refine bj ?_
 try dsimp only [St.put]
 refine ab rfl (az rfl rfl rfl (i9) ?_)
 refine aa rfl (ar rfl (by constructor)) ?_
 refine aa rfl (ar rfl (by constructor)) ?_
 try dsimp only [St.put]
 refine ab rfl (cx rfl rfl rfl (zz n exPr b r) zG (by dsimp only [St.put]; omega) ?_)
 refine aa rfl (ar rfl (by constructor)) ?_
 refine aa rfl (gg rfl rfl rfl) ?_
 refine aa rfl (gg rfl rfl rfl) ?_
 refine aa rfl (bq rfl (by constructor)) ?_
 refine aa rfl (bq rfl (by constructor)) ?_
 refine bf ?_
 dsimp only [St.put]
 refine hK2 _ ?_
 refine br fun K3 hK3 => ?_
 refine bj ?_
 refine aa rfl (ar rfl (by constructor)) ?_
 refine aa rfl (eh rfl rfl rfl) ?_
 refine ir (fun hs => ?_) (fun hs => ?_)
 ·have h1 : decide (i5 exPr b r = 0) = true := hs
  refine aa rfl (ar rfl (by constructor)) ?_
  refine aa rfl (ar rfl (by constructor)) ?_
  refine aa rfl (ar rfl (by constructor)) ?_
  refine aa rfl (eh rfl rfl rfl) ?_
  first | refine aa rfl (bz rfl rfl (by constructor)) ?_ | refine aa rfl (cj rfl rfl (by constructor)) ?_ | refine aa rfl (dl rfl rfl rfl rfl) ?_ | refine aa rfl (dj rfl rfl rfl rfl) ?_
  refine aa rfl (bq rfl (by constructor)) ?_
  refine bf ?_
  dsimp only [St.put]
  refine hK3 _ ?_
  refine ay ?_
  refine cg rfl (by constructor) zN zS ?_
  exact vb (by rw [h1]; rfl)
 ·have h1 : decide (i5 exPr b r = 0) = false := hs
  refine aa rfl (ar rfl (by constructor)) ?_
  refine cz rfl ?_
  refine cz rfl ?_
  refine cz rfl ?_
  first | refine aa rfl (bz rfl rfl (by constructor)) ?_ | refine aa rfl (cj rfl rfl (by constructor)) ?_ | refine aa rfl (dl rfl rfl rfl rfl) ?_ | refine aa rfl (dj rfl rfl rfl rfl) ?_
  refine aa rfl (bq rfl (by constructor)) ?_
  refine bf ?_
  dsimp only [St.put]
  refine hK3 _ ?_
  refine ay ?_
  refine cg rfl (by constructor) zN zS ?_
  exact vb (by rw [h1]; rfl)
theorem ubf (n : Nat) (m : Int) (want : List Int) : PureS n eg Tryd.prog 27 [.v (.int .i64 m), lst want] (.v (.bool (decide (gx exPr m = 0) && decide (jk exPr m = want)))) := fun G nx hF hnx => by
 refine gk (G) (nx) Tryd.func27 rfl (.v) zN (fun hlt => zH) ?_
 simp only [Tryd.ntmps27, List.length_cons, List.length_nil, Nat.reduceAdd, Nat.reduceSub]
 refine bv fun hlt => ?_
 dsimp only at hlt
 have hcl : (jk exPr m).length ≤ 1000 := by
  unfold jk atE
  cases decide (gx exPr m = 0)
  ·exact Nat.zero_le _
  ·have := uc7 (sf exPr m) exPr.pages.length
   have e : exPr.pages.length = 2 := rfl
   show (l3 (sf exPr m) exPr.pages.length).length ≤ 1000
   omega
 refine br fun K1 hK1 => ?_
 refine bj ?_
 refine aa rfl (bq rfl (by constructor)) ?_
 refine bf ?_
 dsimp only [St.put]
 refine hK1 _ ?_
 refine br fun K2 hK2 => ?_
 refine bj ?_
 try dsimp only [St.put]
 refine ab rfl (az rfl rfl rfl (i9) ?_)
 refine aa rfl (ar rfl (by constructor)) ?_
 try dsimp only [St.put]
 refine ab rfl (cx rfl rfl rfl (wg n exPr m) zG (by dsimp only [St.put]; omega) ?_)
 refine aa rfl (ar rfl (by constructor)) ?_
 refine aa rfl (gg rfl rfl rfl) ?_
 refine aa rfl (gg rfl rfl rfl) ?_
 refine aa rfl (bq rfl (by constructor)) ?_
 refine aa rfl (bq rfl (by constructor)) ?_
 refine bf ?_
 dsimp only [St.put]
 refine hK2 _ ?_
 refine br fun K3 hK3 => ?_
 refine bj ?_
 refine aa rfl (ar rfl (by constructor)) ?_
 refine aa rfl (eh rfl rfl rfl) ?_
 refine ir (fun hs => ?_) (fun hs => ?_)
 ·have h1 : decide (gx exPr m = 0) = true := hs
  refine aa rfl (ar rfl (by constructor)) ?_
  refine aa rfl (ar rfl (by constructor)) ?_
  refine aa rfl (ar rfl (by constructor)) ?_
  try dsimp only [St.put]
  refine ab rfl (az rfl rfl rfl (zh (jk exPr m) want hcl) ?_)
  first | refine aa rfl (bz rfl rfl (by constructor)) ?_ | refine aa rfl (cj rfl rfl (by constructor)) ?_ | refine aa rfl (dl rfl rfl rfl rfl) ?_ | refine aa rfl (dj rfl rfl rfl rfl) ?_
  refine aa rfl (bq rfl (by constructor)) ?_
  refine bf ?_
  dsimp only [St.put]
  refine hK3 _ ?_
  refine ay ?_
  refine cg rfl (by constructor) zN zS ?_
  exact vb (by rw [h1]; rfl)
 ·have h1 : decide (gx exPr m = 0) = false := hs
  refine aa rfl (ar rfl (by constructor)) ?_
  refine cz rfl ?_
  refine cz rfl ?_
  refine cz rfl ?_
  first | refine aa rfl (bz rfl rfl (by constructor)) ?_ | refine aa rfl (cj rfl rfl (by constructor)) ?_ | refine aa rfl (dl rfl rfl rfl rfl) ?_ | refine aa rfl (dj rfl rfl rfl rfl) ?_
  refine aa rfl (bq rfl (by constructor)) ?_
  refine bf ?_
  dsimp only [St.put]
  refine hK3 _ ?_
  refine ay ?_
  refine cg rfl (by constructor) zN zS ?_
  exact vb (by rw [h1]; rfl)
theorem uld (n : Nat) : PureS n eg Tryd.prog 8 [val exPr, .v (.int .i64 1)] (.tup [.v (.int .i64 6), .v (.int .i64 0)]) := by
 have := wa n exPr 1
 rwa [xp_words.1, xp_words.2.1] at this
theorem ulh (n : Nat) : PureS n eg Tryd.prog 10 [val exPr, .v (.int .i64 0)] (.tup [lst ([⟨0, 0, 0⟩, ⟨0, 0, 3⟩] : List PlaceD), .v (.int .i64 0)]) := by
 have := ug7 n exPr 0
 rwa [xp_found.1, xp_words.2.2.2] at this
theorem ulk (n : Nat) : PureS n eg Tryd.prog 15 [val exPr, .v (.int .i64 0)] (.tup [lst ([⟨0, 0, 0⟩] : List PlaceD), .v (.int .i64 0)]) := by
 have := ug9 n exPr 0
 rwa [xp_found.2, xp_words.2.2.2] at this
theorem ulg (n : Nat) : PureS n eg Tryd.prog 19 [val exPr, .v (.int .i64 0)] (.tup [val (⟨2, 2⟩ : ba), .v (.int .i64 0)]) := by
 have := we n exPr 0
 rwa [xp_guess.1, xp_guess.2] at this
theorem ulf (n : Nat) : PureS n eg Tryd.prog 29 [val exPr, .v (.int .i64 1)] (.tup [val (⟨0, 1⟩ : ba), .v (.int .i64 0)]) := by
 have := th n exPr 1
 rwa [xp_remain.1, xp_remain.2.1] at this
theorem ule (n : Nat) : PureS n eg Tryd.prog 32 [val exPr] (.tup [val (⟨0, 1⟩ : ba), .v (.int .i64 0)]) := by
 have := zu n exPr
 rwa [ud2, su] at this
theorem ulc (n : Nat) : PureS n eg Tryd.prog 30 [val exPr] (.tup [lst ([1, 0] : List Int), .v (.int .i64 0)]) := by
 have := zq n exPr
 rwa [ud1, su] at this
theorem alWhy (n : Nat) : PureS n eg Tryd.prog 31 [val exPr] (.tup [lst ([0] : List Int), lst ([] : List Int), .v (.int .i64 0)]) := by
 have := zr n exPr
 rwa [su, n3, n3, xp_why.1, xp_why.2] at this
theorem ulj (n : Nat) : PureS n eg Tryd.prog 26 [.v (.bool false), .v (.int .i64 0), .v (.int .i64 4)] (.v (.bool true)) := by
 have := ubg n false 0 4
 rwa [xp_bound.1, xp_bound.2.1] at this
theorem uli (n : Nat) : PureS n eg Tryd.prog 27 [.v (.int .i64 0), lst ([0, 1] : List Int)] (.v (.bool true)) := by
 have := ubf n 0 [0, 1]
 rwa [xp_chief.1, xp_chief.2.1] at this
set_option maxHeartbeats 4000000 in
theorem ulb (n : Nat) : PureS n eg Tryd.prog 25 [] (.v (.bool true)) := fun G nx hF hnx => by
 refine gk (G) (nx) Tryd.func25 rfl (.v) zN (fun hlt => zH) ?_
 simp only [Tryd.ntmps25, List.length_cons, List.length_nil, Nat.reduceAdd, Nat.reduceSub]
 refine bv fun hlt => ?_
 dsimp only at hlt
 refine br fun K1 hK1 => ?_
 refine bj ?_
 refine aa rfl (bq rfl (by constructor)) ?_
 refine bf ?_
 dsimp only [St.put]
 refine hK1 _ ?_
 refine br fun K2 hK2 => ?_
 refine bj ?_
 try dsimp only [St.put]
 refine ab rfl (az rfl rfl rfl (i9) ?_)
 try dsimp only [St.put]
 refine ab rfl ((cx rfl rfl rfl ((uld n)) zG (by dsimp only [St.put]; omega) ?_))
 refine aa rfl (ar rfl (by constructor)) ?_
 refine aa rfl (gg rfl rfl rfl) ?_
 refine aa rfl (gg rfl rfl rfl) ?_
 refine aa rfl (bq rfl (by constructor)) ?_
 refine aa rfl (bq rfl (by constructor)) ?_
 refine bf ?_
 dsimp only [St.put]
 refine hK2 _ ?_
 refine br fun K3 hK3 => ?_
 refine bj ?_
 try dsimp only [St.put]
 refine ab rfl (az rfl rfl rfl (i9) ?_)
 try dsimp only [St.put]
 refine ab rfl ((cx rfl rfl rfl ((ulh n)) zG (by dsimp only [St.put]; omega) ?_))
 refine aa rfl (ar rfl (by constructor)) ?_
 refine aa rfl (gg rfl rfl rfl) ?_
 refine aa rfl (gg rfl rfl rfl) ?_
 refine aa rfl (bq rfl (by constructor)) ?_
 refine aa rfl (bq rfl (by constructor)) ?_
 refine bf ?_
 dsimp only [St.put]
 refine hK3 _ ?_
 refine br fun K4 hK4 => ?_
 refine bj ?_
 try dsimp only [St.put]
 refine ab rfl (az rfl rfl rfl (i9) ?_)
 try dsimp only [St.put]
 refine ab rfl ((cx rfl rfl rfl ((ulk n)) zG (by dsimp only [St.put]; omega) ?_))
 refine aa rfl (ar rfl (by constructor)) ?_
 refine aa rfl (gg rfl rfl rfl) ?_
 refine aa rfl (gg rfl rfl rfl) ?_
 refine aa rfl (bq rfl (by constructor)) ?_
 refine aa rfl (bq rfl (by constructor)) ?_
 refine bf ?_
 dsimp only [St.put]
 refine hK4 _ ?_
 refine br fun K5 hK5 => ?_
 refine bj ?_
 try dsimp only [St.put]
 refine ab rfl (az rfl rfl rfl (i9) ?_)
 try dsimp only [St.put]
 refine ab rfl ((cx rfl rfl rfl ((ulg n)) zG (by dsimp only [St.put]; omega) ?_))
 refine aa rfl (ar rfl (by constructor)) ?_
 refine aa rfl (gg rfl rfl rfl) ?_
 refine aa rfl (gg rfl rfl rfl) ?_
 try dsimp only [St.put]
 refine ab rfl (dg rfl ?_)
 try dsimp only [St.put]
 first | refine ab rfl (cn rfl rfl rfl zG rfl rfl (by rfl) ?_) | refine ab rfl (gi rfl rfl rfl zG (by constructor) rfl zO ?_)
 refine aa rfl (bq rfl (by constructor)) ?_
 refine bf ?_
 dsimp only [St.put]
 refine hK5 _ ?_
 refine fj (i := 7) rfl zG zC ?_
 dsimp only
 refine br fun K6 hK6 => ?_
 refine bj ?_
 try dsimp only [St.put]
 refine ab rfl (az rfl rfl rfl (i9) ?_)
 try dsimp only [St.put]
 refine ab rfl ((cx rfl rfl rfl ((ulf n)) zG (by dsimp only [St.put]; omega) ?_))
 refine aa rfl (ar rfl (by constructor)) ?_
 refine aa rfl (gg rfl rfl rfl) ?_
 refine aa rfl (gg rfl rfl rfl) ?_
 try dsimp only [St.put]
 refine ab rfl (dg rfl ?_)
 try dsimp only [St.put]
 first | refine ab rfl (cn rfl rfl rfl zG rfl rfl (by rfl) ?_) | refine ab rfl (gi rfl rfl rfl zG (by constructor) rfl zO ?_)
 refine aa rfl (bq rfl (by constructor)) ?_
 refine bf ?_
 dsimp only [St.put]
 refine hK6 _ ?_
 refine fj (i := 9) rfl zG zC ?_
 dsimp only
 refine br fun K7 hK7 => ?_
 refine bj ?_
 try dsimp only [St.put]
 refine ab rfl (az rfl rfl rfl (i9) ?_)
 try dsimp only [St.put]
 refine ab rfl ((cx rfl rfl rfl ((ule n)) zG (by dsimp only [St.put]; omega) ?_))
 refine aa rfl (ar rfl (by constructor)) ?_
 refine aa rfl (gg rfl rfl rfl) ?_
 refine aa rfl (gg rfl rfl rfl) ?_
 try dsimp only [St.put]
 refine ab rfl (dg rfl ?_)
 try dsimp only [St.put]
 first | refine ab rfl (cn rfl rfl rfl zG rfl rfl (by rfl) ?_) | refine ab rfl (gi rfl rfl rfl zG (by constructor) rfl zO ?_)
 refine aa rfl (bq rfl (by constructor)) ?_
 refine bf ?_
 dsimp only [St.put]
 refine hK7 _ ?_
 refine fj (i := 11) rfl zG zC ?_
 dsimp only
 refine br fun K8 hK8 => ?_
 refine bj ?_
 try dsimp only [St.put]
 refine ab rfl (az rfl rfl rfl (i9) ?_)
 try dsimp only [St.put]
 refine ab rfl ((cx rfl rfl rfl ((ulc n)) zG (by dsimp only [St.put]; omega) ?_))
 refine aa rfl (ar rfl (by constructor)) ?_
 refine aa rfl (gg rfl rfl rfl) ?_
 refine aa rfl (gg rfl rfl rfl) ?_
 refine aa rfl (bq rfl (by constructor)) ?_
 refine aa rfl (bq rfl (by constructor)) ?_
 refine bf ?_
 dsimp only [St.put]
 refine hK8 _ ?_
 refine br fun K9 hK9 => ?_
 refine bj ?_
 try dsimp only [St.put]
 refine ab rfl (az rfl rfl rfl (i9) ?_)
 try dsimp only [St.put]
 refine ab rfl ((cx rfl rfl rfl ((alWhy n)) zG (by dsimp only [St.put]; omega) ?_))
 refine aa rfl (ar rfl (by constructor)) ?_
 refine aa rfl (gg rfl rfl rfl) ?_
 refine aa rfl (gg rfl rfl rfl) ?_
 refine aa rfl (gg rfl rfl rfl) ?_
 refine aa rfl (bq rfl (by constructor)) ?_
 refine aa rfl (bq rfl (by constructor)) ?_
 refine aa rfl (bq rfl (by constructor)) ?_
 refine bf ?_
 dsimp only [St.put]
 refine hK9 _ ?_
 refine br fun K10 hK10 => ?_
 refine du 18 ?_
 refine zQ ?_
 refine fa G zX ?_
 dsimp only
 refine bj ?_
 refine aa rfl (ar rfl (by constructor)) ?_
 refine aa rfl (dt (eh rfl rfl rfl) (decide_eq_true (by omega))) ?_
 refine aa rfl (ar rfl (by constructor)) ?_
 refine aa rfl (ar rfl (by constructor)) ?_
 ((first | refine aa rfl ((dt (c := true) (eh rfl rfl rfl) (decide_eq_true rfl))) ?_ | refine ai rfl rfl rfl rfl ((dt (c := true) (eh rfl rfl rfl) (decide_eq_true rfl))) ?_ | refine ef rfl rfl rfl rfl ((dt (c := true) (eh rfl rfl rfl) (decide_eq_true rfl))) ?_ | refine sk rfl rfl rfl ((dt (c := true) (eh rfl rfl rfl) (decide_eq_true rfl))) ?_))
 first | refine aa rfl (bz rfl rfl (by constructor)) ?_ | refine aa rfl (cj rfl rfl (by constructor)) ?_ | refine aa rfl (dl rfl rfl rfl rfl) ?_ | refine aa rfl (dj rfl rfl rfl rfl) ?_
 refine aa rfl (ar rfl (by constructor)) ?_
 refine aa rfl (ar rfl (by constructor)) ?_
 refine aa rfl (dt (eh rfl rfl rfl) (decide_eq_true (by omega))) ?_
 first | refine aa rfl (bz rfl rfl (by constructor)) ?_ | refine aa rfl (cj rfl rfl (by constructor)) ?_ | refine aa rfl (dl rfl rfl rfl rfl) ?_ | refine aa rfl (dj rfl rfl rfl rfl) ?_
 refine aa rfl (ar rfl (by constructor)) ?_
 refine aa rfl (ar rfl (by constructor)) ?_
 try dsimp only [St.put]
 refine ab rfl (az rfl rfl rfl (kr _ _ _) ?_)
 try dsimp only [St.put]
 refine ab rfl (az rfl rfl rfl (kr _ _ _) ?_)
 try dsimp only [St.put]
 refine ab rfl (cy rfl rfl rfl (by decide) (by decide) zR (by decide) ?_)
 try dsimp only [St.put]
 refine ab rfl (az rfl rfl rfl (nh [⟨0, 0, 0⟩, ⟨0, 0, 3⟩]) ?_)
 try dsimp only [St.put]
 refine ab rfl (az rfl rfl rfl (ubc [⟨0, 0, 0⟩, ⟨0, 0, 3⟩]) ?_)
 first | refine aa rfl (bz rfl rfl (by constructor)) ?_ | refine aa rfl (cj rfl rfl (by constructor)) ?_ | refine aa rfl (dl rfl rfl rfl rfl) ?_ | refine aa rfl (dj rfl rfl rfl rfl) ?_
 refine aa rfl (ar rfl (by constructor)) ?_
 refine aa rfl (ar rfl (by constructor)) ?_
 refine aa rfl (dt (eh rfl rfl rfl) (decide_eq_true (by omega))) ?_
 first | refine aa rfl (bz rfl rfl (by constructor)) ?_ | refine aa rfl (cj rfl rfl (by constructor)) ?_ | refine aa rfl (dl rfl rfl rfl rfl) ?_ | refine aa rfl (dj rfl rfl rfl rfl) ?_
 refine aa rfl (ar rfl (by constructor)) ?_
 refine aa rfl (ar rfl (by constructor)) ?_
 try dsimp only [St.put]
 refine ab rfl (az rfl rfl rfl (kr _ _ _) ?_)
 try dsimp only [St.put]
 refine ab rfl (cy rfl rfl rfl (by decide) (by decide) zR (by decide) ?_)
 try dsimp only [St.put]
 refine ab rfl (az rfl rfl rfl (nh [⟨0, 0, 0⟩]) ?_)
 try dsimp only [St.put]
 refine ab rfl (az rfl rfl rfl (ubc [⟨0, 0, 0⟩]) ?_)
 first | refine aa rfl (bz rfl rfl (by constructor)) ?_ | refine aa rfl (cj rfl rfl (by constructor)) ?_ | refine aa rfl (dl rfl rfl rfl rfl) ?_ | refine aa rfl (dj rfl rfl rfl rfl) ?_
 refine aa rfl (ar rfl (by constructor)) ?_
 try dsimp only [St.put]
 refine ab rfl ((cx rfl rfl rfl ((ulj n)) zG (by dsimp only [St.put]; omega) ?_))
 first | refine aa rfl (bz rfl rfl (by constructor)) ?_ | refine aa rfl (cj rfl rfl (by constructor)) ?_ | refine aa rfl (dl rfl rfl rfl rfl) ?_ | refine aa rfl (dj rfl rfl rfl rfl) ?_
 refine aa rfl (ar rfl (by constructor)) ?_
 refine aa rfl (ar rfl (by constructor)) ?_
 refine aa rfl (dt (eh rfl rfl rfl) (decide_eq_true (by omega))) ?_
 first | refine aa rfl (bz rfl rfl (by constructor)) ?_ | refine aa rfl (cj rfl rfl (by constructor)) ?_ | refine aa rfl (dl rfl rfl rfl rfl) ?_ | refine aa rfl (dj rfl rfl rfl rfl) ?_
 refine aa rfl (ar rfl (by constructor)) ?_
 try dsimp only [St.put]
 first | refine ae rfl (bw rfl rfl) ?_ | refine ae rfl (bh rfl rfl (Enc.len _)) ?_ | refine ae rfl (bh rfl rfl rfl) ?_ | refine ae rfl (ci rfl rfl zG trivial (by first | rfl | assumption)) ?_ | refine ae rfl (dc rfl rfl zG trivial (by rfl)) ?_ | refine ae rfl (dv rfl rfl zG trivial (by simp)) ?_ | refine ae rfl (bp rfl rfl zG trivial (dw (by assumption) rfl)) ?_ | refine ae rfl (bp rfl rfl zG trivial (by assumption)) ?_ | refine ae rfl (d8 rfl rfl zG trivial rfl (by assumption) rfl (by decide)) ?_ | refine ae rfl (dq rfl rfl zG (by rfl)) ?_
 refine aa rfl (fh rfl rfl) ?_
 ((first | refine aa rfl ((dt (c := true) (kd (x := (⟨2, 2⟩ : ba)) (y := (⟨2, 2⟩ : ba)) rfl rfl rfl) (decide_eq_true rfl))) ?_ | refine ai rfl rfl rfl rfl ((dt (c := true) (kd (x := (⟨2, 2⟩ : ba)) (y := (⟨2, 2⟩ : ba)) rfl rfl rfl) (decide_eq_true rfl))) ?_ | refine ef rfl rfl rfl rfl ((dt (c := true) (kd (x := (⟨2, 2⟩ : ba)) (y := (⟨2, 2⟩ : ba)) rfl rfl rfl) (decide_eq_true rfl))) ?_ | refine sk rfl rfl rfl ((dt (c := true) (kd (x := (⟨2, 2⟩ : ba)) (y := (⟨2, 2⟩ : ba)) rfl rfl rfl) (decide_eq_true rfl))) ?_))
 first | refine aa rfl (bz rfl rfl (by constructor)) ?_ | refine aa rfl (cj rfl rfl (by constructor)) ?_ | refine aa rfl (dl rfl rfl rfl rfl) ?_ | refine aa rfl (dj rfl rfl rfl rfl) ?_
 refine aa rfl (ar rfl (by constructor)) ?_
 refine aa rfl (ar rfl (by constructor)) ?_
 refine aa rfl (dt (eh rfl rfl rfl) (decide_eq_true (by omega))) ?_
 first | refine aa rfl (bz rfl rfl (by constructor)) ?_ | refine aa rfl (cj rfl rfl (by constructor)) ?_ | refine aa rfl (dl rfl rfl rfl rfl) ?_ | refine aa rfl (dj rfl rfl rfl rfl) ?_
 refine aa rfl (ar rfl (by constructor)) ?_
 try dsimp only [St.put]
 first | refine ae rfl (bw rfl rfl) ?_ | refine ae rfl (bh rfl rfl (Enc.len _)) ?_ | refine ae rfl (bh rfl rfl rfl) ?_ | refine ae rfl (ci rfl rfl zG trivial (by first | rfl | assumption)) ?_ | refine ae rfl (dc rfl rfl zG trivial (by rfl)) ?_ | refine ae rfl (dv rfl rfl zG trivial (by simp)) ?_ | refine ae rfl (bp rfl rfl zG trivial (dw (by assumption) rfl)) ?_ | refine ae rfl (bp rfl rfl zG trivial (by assumption)) ?_ | refine ae rfl (d8 rfl rfl zG trivial rfl (by assumption) rfl (by decide)) ?_ | refine ae rfl (dq rfl rfl zG (by rfl)) ?_
 refine aa rfl (fh rfl rfl) ?_
 ((first | refine aa rfl ((dt (c := true) (kd (x := (⟨0, 1⟩ : ba)) (y := (⟨0, 1⟩ : ba)) rfl rfl rfl) (decide_eq_true rfl))) ?_ | refine ai rfl rfl rfl rfl ((dt (c := true) (kd (x := (⟨0, 1⟩ : ba)) (y := (⟨0, 1⟩ : ba)) rfl rfl rfl) (decide_eq_true rfl))) ?_ | refine ef rfl rfl rfl rfl ((dt (c := true) (kd (x := (⟨0, 1⟩ : ba)) (y := (⟨0, 1⟩ : ba)) rfl rfl rfl) (decide_eq_true rfl))) ?_ | refine sk rfl rfl rfl ((dt (c := true) (kd (x := (⟨0, 1⟩ : ba)) (y := (⟨0, 1⟩ : ba)) rfl rfl rfl) (decide_eq_true rfl))) ?_))
 first | refine aa rfl (bz rfl rfl (by constructor)) ?_ | refine aa rfl (cj rfl rfl (by constructor)) ?_ | refine aa rfl (dl rfl rfl rfl rfl) ?_ | refine aa rfl (dj rfl rfl rfl rfl) ?_
 refine aa rfl (ar rfl (by constructor)) ?_
 refine aa rfl (ar rfl (by constructor)) ?_
 refine aa rfl (dt (eh rfl rfl rfl) (decide_eq_true (by omega))) ?_
 first | refine aa rfl (bz rfl rfl (by constructor)) ?_ | refine aa rfl (cj rfl rfl (by constructor)) ?_ | refine aa rfl (dl rfl rfl rfl rfl) ?_ | refine aa rfl (dj rfl rfl rfl rfl) ?_
 refine aa rfl (ar rfl (by constructor)) ?_
 try dsimp only [St.put]
 first | refine ae rfl (bw rfl rfl) ?_ | refine ae rfl (bh rfl rfl (Enc.len _)) ?_ | refine ae rfl (bh rfl rfl rfl) ?_ | refine ae rfl (ci rfl rfl zG trivial (by first | rfl | assumption)) ?_ | refine ae rfl (dc rfl rfl zG trivial (by rfl)) ?_ | refine ae rfl (dv rfl rfl zG trivial (by simp)) ?_ | refine ae rfl (bp rfl rfl zG trivial (dw (by assumption) rfl)) ?_ | refine ae rfl (bp rfl rfl zG trivial (by assumption)) ?_ | refine ae rfl (d8 rfl rfl zG trivial rfl (by assumption) rfl (by decide)) ?_ | refine ae rfl (dq rfl rfl zG (by rfl)) ?_
 refine aa rfl (fh rfl rfl) ?_
 ((first | refine aa rfl ((dt (c := true) (kd (x := (⟨0, 1⟩ : ba)) (y := (⟨0, 1⟩ : ba)) rfl rfl rfl) (decide_eq_true rfl))) ?_ | refine ai rfl rfl rfl rfl ((dt (c := true) (kd (x := (⟨0, 1⟩ : ba)) (y := (⟨0, 1⟩ : ba)) rfl rfl rfl) (decide_eq_true rfl))) ?_ | refine ef rfl rfl rfl rfl ((dt (c := true) (kd (x := (⟨0, 1⟩ : ba)) (y := (⟨0, 1⟩ : ba)) rfl rfl rfl) (decide_eq_true rfl))) ?_ | refine sk rfl rfl rfl ((dt (c := true) (kd (x := (⟨0, 1⟩ : ba)) (y := (⟨0, 1⟩ : ba)) rfl rfl rfl) (decide_eq_true rfl))) ?_))
 first | refine aa rfl (bz rfl rfl (by constructor)) ?_ | refine aa rfl (cj rfl rfl (by constructor)) ?_ | refine aa rfl (dl rfl rfl rfl rfl) ?_ | refine aa rfl (dj rfl rfl rfl rfl) ?_
 refine aa rfl (ar rfl (by constructor)) ?_
 refine aa rfl (ar rfl (by constructor)) ?_
 refine aa rfl (dt (eh rfl rfl rfl) (decide_eq_true (by omega))) ?_
 first | refine aa rfl (bz rfl rfl (by constructor)) ?_ | refine aa rfl (cj rfl rfl (by constructor)) ?_ | refine aa rfl (dl rfl rfl rfl rfl) ?_ | refine aa rfl (dj rfl rfl rfl rfl) ?_
 refine aa rfl (ar rfl (by constructor)) ?_
 refine aa rfl (ar rfl (by constructor)) ?_
 try dsimp only [St.put]
 refine ab rfl (cy rfl rfl rfl (by decide) (by decide) zR (by decide) ?_)
 try dsimp only [St.put]
 refine ab rfl (az rfl rfl rfl (ubd [1, 0] (by decide)) ?_)
 first | refine aa rfl (bz rfl rfl (by constructor)) ?_ | refine aa rfl (cj rfl rfl (by constructor)) ?_ | refine aa rfl (dl rfl rfl rfl rfl) ?_ | refine aa rfl (dj rfl rfl rfl rfl) ?_
 refine aa rfl (ar rfl (by constructor)) ?_
 refine aa rfl (ar rfl (by constructor)) ?_
 refine aa rfl (dt (eh rfl rfl rfl) (decide_eq_true (by omega))) ?_
 first | refine aa rfl (bz rfl rfl (by constructor)) ?_ | refine aa rfl (cj rfl rfl (by constructor)) ?_ | refine aa rfl (dl rfl rfl rfl rfl) ?_ | refine aa rfl (dj rfl rfl rfl rfl) ?_
 refine aa rfl (ar rfl (by constructor)) ?_
 refine aa rfl (ar rfl (by constructor)) ?_
 try dsimp only [St.put]
 refine ab rfl (cy rfl rfl rfl (by decide) (by decide) zR (by decide) ?_)
 try dsimp only [St.put]
 refine ab rfl (az rfl rfl rfl (ubd [0] (by decide)) ?_)
 first | refine aa rfl (bz rfl rfl (by constructor)) ?_ | refine aa rfl (cj rfl rfl (by constructor)) ?_ | refine aa rfl (dl rfl rfl rfl rfl) ?_ | refine aa rfl (dj rfl rfl rfl rfl) ?_
 refine aa rfl (ar rfl (by constructor)) ?_
 refine aa rfl (ar rfl (by constructor)) ?_
 first | refine aa rfl (cc rfl rfl (List.length_map _)) ?_ | refine aa rfl (cc rfl rfl rfl) ?_ | refine aa rfl (lu rfl rfl) ?_ | refine aa rfl (mh rfl rfl) ?_ | refine aa rfl (mg rfl rfl) ?_ | refine aa rfl (mf rfl rfl (by omega)) ?_
 ((first | refine aa rfl ((dt (c := true) (eh rfl rfl rfl) (decide_eq_true rfl))) ?_ | refine ai rfl rfl rfl rfl ((dt (c := true) (eh rfl rfl rfl) (decide_eq_true rfl))) ?_ | refine ef rfl rfl rfl rfl ((dt (c := true) (eh rfl rfl rfl) (decide_eq_true rfl))) ?_ | refine sk rfl rfl rfl ((dt (c := true) (eh rfl rfl rfl) (decide_eq_true rfl))) ?_))
 first | refine aa rfl (bz rfl rfl (by constructor)) ?_ | refine aa rfl (cj rfl rfl (by constructor)) ?_ | refine aa rfl (dl rfl rfl rfl rfl) ?_ | refine aa rfl (dj rfl rfl rfl rfl) ?_
 refine aa rfl (ar rfl (by constructor)) ?_
 try dsimp only [St.put]
 refine ab rfl (cy rfl rfl rfl (by decide) (by decide) zR (by decide) ?_)
 try dsimp only [St.put]
 refine ab rfl ((cx rfl rfl rfl ((uli n)) zG (by dsimp only [St.put]; omega) ?_))
 first | refine aa rfl (bz rfl rfl (by constructor)) ?_ | refine aa rfl (cj rfl rfl (by constructor)) ?_ | refine aa rfl (dl rfl rfl rfl rfl) ?_ | refine aa rfl (dj rfl rfl rfl rfl) ?_
 refine aa rfl (bq rfl (by constructor)) ?_
 refine bf ?_
 dsimp only [St.put]
 refine hK10 _ ?_
 refine ay ?_
 refine cg rfl (by constructor) zN zS ?_
 rfl
end Go.Proofs.YtgffhbbcpgdjjaaDoor
namespace Go.AB
open Go Go.RowKit
open Go.AB.Enc (cells)
open Go.PB (aq ah PlaceD av ax aw bg am af cb ba)
end Go.AB
namespace Go.AB
open Go Go.RowKit
open Go.AB.Enc (cells)
open Go.PB (aq ah PlaceD av ax aw bg am af cb ba cr c4)
section
variable {p : af} {i : Nat} {x : am}
end
end Go.AB
namespace Go.Proofs.YtgffhbbcpgdjjaaDoor
set_option maxRecDepth 10000
open Go Go.RowKit Go.AB
open Go.AB.Enc (cells)
open Go.PB (aq ah PlaceD av ax aw bg am af cb ba cr c4)
section
variable {p : af} {i : Nat} {x : am}
end
end Go.Proofs.YtgffhbbcpgdjjaaDoor
namespace Go.AB
open Go Go.RowKit
open Go.AB.Enc (cells)
open Go.PB (aq ah PlaceD av ax aw bg am af cb ba cr c4)
end Go.AB
namespace Go.Proofs.YtgffhbbcpgdjjaaDoor
set_option maxRecDepth 10000
open Go Go.RowKit Go.AB
open Go.AB.Enc (cells)
open Go.PB (aq ah PlaceD av ax aw bg am af cb ba cr c4)
end Go.Proofs.YtgffhbbcpgdjjaaDoor
namespace Go.AB
open Go Go.RowKit
theorem Rs.wk {E : Env} {w : World} : ∀ {cs cs' : List C} {vs : List Value}, Wks cs cs' → Rs E w cs vs → Rs E w cs' vs := fun {cs cs' vs} hw h =>
 ⟨hw.len ▸ h.1, fun j c v hj hv => by
  obtain ⟨c0, h1, h2⟩ := hw.get j c hj
  exact h2.2 _ _ _ (h.2 j c0 v h1 hv)⟩
theorem PureS.wk {n : Nat} {F : GObj} {P : Program} {f : FuncId} {al bl : List C} {r : C} (h : PureS n F P f bl r) (hw : Wks al bl) : PureS n F P f al r := fun G nx h1 h2 E w vs h3 h4 => h G nx h1 h2 E w vs (h3.wk hw) h4
end Go.AB
namespace Go.Proofs.YtgffhbbcpgdjjaaDoor
set_option maxRecDepth 10000
open Go Go.RowKit Go.AB
open Go.AB.Enc (cells)
open Go.PB (aq ah PlaceD av ax aw bg am af cb ba cr c4)
theorem ube (G : Nat → Option GObj) (nx : Nat) : PC Tryd.prog 28 [] G nx fun r' G' nx' => r' = .agg [lst nm, .own (nx + 1) 0 2, lst exPr.seconds, .own (nx + 1 + 1) 0 2] ∧ G' = (aj (aj G (nx + 1) (.arr 0 0 71 2 2 (cp exPr.firsts))) (nx + 1 + 1) (.arr 0 0 69 6 2 (cp exPr.pages))) ∧ nx' = nx + 1 + 1 + 1 := by
 refine gk ((aj (aj G (nx + 1) (.arr 0 0 71 2 2 (cp exPr.firsts))) (nx + 1 + 1) (.arr 0 0 69 6 2 (cp exPr.pages)))) (nx + 1 + 1 + 1) Tryd.func28 rfl (.agg (bn (bd _ _) (bn (.own (by omega)) (bn (bd _ _) (bn (.own (by omega)) cv))))) zN (fun hlt => (by (repeat' (refine jt ?_ (by (try dsimp only); omega) ?_)); all_goals (first | exact ju zS | (repeat' (first | exact trivial | refine ⟨?_, ?_⟩ | exact .v | exact .any | refine .elem ?_ | exact bd _ _ | exact e8 _ _ | exact dz _ _ | exact fe _ (by (try dsimp only); omega) | exact .box (by (try dsimp only); omega) | exact em | exact cv | exact ec _ | refine fg ?_ ?_ | exact .arr (by (try dsimp only); omega) | exact .own (by (try dsimp only); omega) | exact .map (by (try dsimp only); omega) | exact ec _ | refine bn ?_ ?_ | exact bd _ _))))) ?_
 simp only [Tryd.ntmps28, List.length_cons, List.length_nil, Nat.reduceAdd, Nat.reduceSub]
 refine bv fun hlt => ?_
 dsimp only at hlt
 refine yS fun _ K1 => ?_
 refine yR ?_
 try dsimp only [St.put]
 refine ab rfl (dg rfl ?_)
 refine yN ?_
 dsimp only [St.put]
 refine K1 _ ?_
 refine yS fun _ K2 => ?_
 refine yR ?_
 try dsimp only [St.put]
 refine ab rfl (cy (rows := ([il, er, xIs, im] : List ByteArray).map cells) rfl rfl rfl (by decide) (by decide) (gu _) (by decide) ?_)
 try dsimp only [St.put]
 refine ab rfl (cy (rows := ([im, il, er] : List ByteArray).map cells) rfl rfl rfl (by decide) (by decide) (gu _) (by decide) ?_)
 try dsimp only [St.put]
 refine ab rfl (cy (rows := ([[il, er, xIs, im], [im, il, er]] : List (List ByteArray)).map cells) rfl rfl rfl (by decide) (by decide) (gu _) (by decide) ?_)
 refine aa rfl (fh (cs := cells (⟨7, [[il, er, xIs, im], [im, il, er]]⟩ : aq)) rfl rfl) ?_
 try dsimp only [St.put]
 refine ab rfl (cy (rows := ([er, l6, er] : List ByteArray).map cells) rfl rfl rfl (by decide) (by decide) (gu _) (by decide) ?_)
 try dsimp only [St.put]
 refine ab rfl (cy (rows := ([[er, l6, er]] : List (List ByteArray)).map cells) rfl rfl rfl (by decide) (by decide) (gu _) (by decide) ?_)
 refine aa rfl (fh (cs := cells (⟨3, [[er, l6, er]]⟩ : aq)) rfl rfl) ?_
 try dsimp only [St.put]
 refine ab rfl (cy (rows := ([⟨7, [[il, er, xIs, im], [im, il, er]]⟩, ⟨3, [[er, l6, er]]⟩] : List aq).map cells) rfl rfl rfl (by decide) (by decide) (gu _) (by decide) ?_)
 refine aa rfl (fh (cs := [lst nm]) rfl rfl) ?_
 refine aa rfl (fh (cs := cells (⟨1, 50⟩ : bg)) rfl rfl) ?_
 refine aa rfl (fh (cs := cells (⟨2, 0⟩ : bg)) rfl rfl) ?_
 try dsimp only [St.put]
 refine ab rfl (ucn ([⟨1, 50⟩, ⟨2, 0⟩] : List bg) rfl rfl rfl rfl (by decide) (by decide) (by decide) ?_)
 refine aa rfl (fh (cs := cells (⟨3, 60⟩ : bg)) rfl rfl) ?_
 try dsimp only [St.put]
 refine ab rfl (cy (rows := ([⟨3, 60⟩] : List bg).map cells) rfl rfl rfl (by decide) (by decide) (gu _) (by decide) ?_)
 try dsimp only [St.put]
 refine ab rfl (az rfl rfl rfl (kr _ _ _) ?_)
 try dsimp only [St.put]
 refine ab rfl (cy (rows := ([⟨0, 0, 0⟩] : List PlaceD).map cells) rfl rfl rfl (by decide) (by decide) (gu _) (by decide) ?_)
 try dsimp only [St.put]
 refine ab rfl (az rfl rfl rfl (nh [⟨0, 0, 0⟩]) ?_)
 try dsimp only [St.put]
 refine ab rfl (az rfl rfl rfl (kr _ _ _) ?_)
 try dsimp only [St.put]
 refine ab rfl (az rfl rfl rfl (kr _ _ _) ?_)
 try dsimp only [St.put]
 refine ab rfl (cy (rows := ([⟨0, 0, 0⟩, ⟨0, 0, 3⟩] : List PlaceD).map cells) rfl rfl rfl (by decide) (by decide) (gu _) (by decide) ?_)
 try dsimp only [St.put]
 refine ab rfl (az rfl rfl rfl (nh [⟨0, 0, 0⟩, ⟨0, 0, 3⟩]) ?_)
 refine aa rfl (fh (cs := cells (⟨0, 0, 0, 0, [⟨0, 0, 0⟩], [⟨0, 0, 0⟩, ⟨0, 0, 3⟩]⟩ : am)) rfl rfl) ?_
 try dsimp only [St.put]
 refine ab rfl (az rfl rfl rfl (kr _ _ _) ?_)
 try dsimp only [St.put]
 refine ab rfl (cy (rows := ([⟨0, 1, 1⟩] : List PlaceD).map cells) rfl rfl rfl (by decide) (by decide) (gu _) (by decide) ?_)
 try dsimp only [St.put]
 refine ab rfl (az rfl rfl rfl (nh [⟨0, 1, 1⟩]) ?_)
 refine aa rfl (fh (cs := [.v (.int .i64 1), .v (.int .i64 2), .v (.int .i64 0), .v (.int .i64 (-1)), lst ([⟨0, 1, 1⟩] : List PlaceD), .list [] .nil]) rfl rfl) ?_
 try dsimp only [St.put]
 refine ab rfl (e_wk 26 (val (⟨1, 2, 0, -1, [⟨0, 1, 1⟩], []⟩ : am)) rfl (by show Wk _ (.agg _); exact zW) ?_)
 dsimp only
 refine ucn ([⟨0, 0, 0, 0, [⟨0, 0, 0⟩], [⟨0, 0, 0⟩, ⟨0, 0, 3⟩]⟩, ⟨1, 2, 0, -1, [⟨0, 1, 1⟩], []⟩] : List am) rfl rfl rfl rfl (by decide) (by decide) (by decide) ?_
 refine aa rfl (fh (cs := [lst nm, .own (nx + 1) 0 2, lst exPr.seconds, .own (nx + 1 + 1) 0 2]) rfl rfl) ?_
 try dsimp only [St.put]
 refine ab rfl (cn rfl rfl rfl zG rfl rfl (by rfl) ?_)
 refine yN ?_
 dsimp only [St.put]
 refine K2 _ ?_
 refine ay ?_
 refine ox rfl (i6 rfl zG (by rfl) zC rfl) zN zX ?_
 exact zW

theorem bnd (n : Nat) (b : Bool) (r w : Int) (h1 : i5 exPr b r = 0) (h2 : l0 exPr b r = w) : PureS n eg Tryd.prog 26 [.v (.bool b), .v (.int .i64 r), .v (.int .i64 w)] (.v (.bool true)) := by
 have := ubg n b r w
 rwa [h1, h2, decide_eq_true rfl, decide_eq_true rfl] at this
theorem chf (n : Nat) : PureS n eg Tryd.prog 27 [.v (.int .i64 1), lst ([] : List Int)] (.v (.bool true)) := by
 have := ubf n 1 []
 rwa [xp_chief.2.2.1, xp_chief.2.2.2] at this
theorem chf2 (n : Nat) : PureS n eg Tryd.prog 27 [.v (.int .i64 1), .list [] .nil] (.v (.bool true)) := (chf n).wk ⟨Wk.refl _, Wk.tok, trivial⟩
theorem exW0 (n : Nat) : PureS n eg Tryd.prog 8 [val exPr, .v (.int .i64 0)] (.tup [.v (.int .i64 4), .v (.int .i64 0)]) := by
 have := wa n exPr 0
 rwa [xp_words.2.2.1, xp_words.2.2.2] at this
theorem exR0 (n : Nat) : PureS n eg Tryd.prog 29 [val exPr, .v (.int .i64 0)] (.tup [val (⟨0, 1⟩ : ba), .v (.int .i64 0)]) := by
 have := th n exPr 0
 rwa [xp_remain.2.2.1, xp_remain.2.2.2] at this
set_option maxHeartbeats 8000000 in
theorem ujl : PureS 0 eg Tryd.prog 5 [] (.v (.bool true)) := fun G nx hF hnx => by
 refine gk (G) (nx) Tryd.func5 rfl (.v) zN (fun hlt => zH) ?_
 simp only [Tryd.ntmps5, List.length_cons, List.length_nil, Nat.reduceAdd, Nat.reduceSub]
 refine bv fun hlt => ?_
 dsimp only at hlt
 obtain ⟨b1, b2, b3, b4, b5, b6⟩ := xp_bound
 obtain ⟨q1, q2, q3, q4, q5, q6, q7, q8, q9, q10, q11, q12, q13⟩ := ud3
 refine yS fun _ K1 => ?_
 refine yR ?_
 refine yA rfl rfl ?_
 refine yN ?_
 dsimp only [St.put]
 refine K1 _ ?_
 refine yS fun _ K2 => ?_
 refine yS fun _ K3 => ?_
 refine yR ?_
 refine yM rfl rfl ?_
 try dsimp only [St.put]
 refine ab rfl ((cx rfl rfl rfl ((ulb 0)) zG (by dsimp only [St.put]; omega) ?_))
 refine aa rfl (ge rfl rfl) ?_
 refine aa rfl (cj rfl rfl (by constructor)) ?_
 refine yM rfl rfl ?_
 try dsimp only [St.put]
 refine ab rfl ((cx rfl rfl rfl ((bnd 0 false 1 0 b4 b3)) zG (by dsimp only [St.put]; omega) ?_))
 refine aa rfl (ge rfl rfl) ?_
 refine aa rfl (cj rfl rfl (by constructor)) ?_
 refine yM rfl rfl ?_
 try dsimp only [St.put]
 refine ab rfl ((cx rfl rfl rfl ((bnd 0 true 0 5 b6 b5)) zG (by dsimp only [St.put]; omega) ?_))
 refine aa rfl (ge rfl rfl) ?_
 refine aa rfl (cj rfl rfl (by constructor)) ?_
 refine yM rfl rfl ?_
 try dsimp only [St.put]
 refine ab rfl ((cx rfl rfl rfl ((chf2 0)) zG (by dsimp only [St.put]; omega) ?_))
 refine aa rfl (ge rfl rfl) ?_
 refine aa rfl (cj rfl rfl (by constructor)) ?_
 refine yN ?_
 dsimp only [St.put]
 refine K3 _ ?_
 refine bc rfl (fun h => by cases h) (fun _ => ?_)
 refine bi ?_
 refine K2 _ ?_
 refine yS fun _ K4 => ?_
 refine yR ?_
 try dsimp only [St.put]
 refine ab rfl (az rfl rfl rfl (i9) ?_)
 try dsimp only [St.put]
 refine ab rfl ((cx rfl rfl rfl ((exW0 0)) zG (by dsimp only [St.put]; omega) ?_))
 refine yM rfl rfl ?_
 refine yX rfl rfl rfl rfl ?_
 refine yX rfl rfl rfl rfl ?_
 refine yA rfl rfl ?_
 refine yA rfl rfl ?_
 refine yN ?_
 dsimp only [St.put]
 refine K4 _ ?_
 refine yS fun _ K5 => ?_
 refine yR ?_
 try dsimp only [St.put]
 refine ab rfl (az rfl rfl rfl (i9) ?_)
 try dsimp only [St.put]
 refine ab rfl ((cx rfl rfl rfl ((exR0 0)) zG (by dsimp only [St.put]; omega) ?_))
 refine yM rfl rfl ?_
 refine yX rfl rfl rfl rfl ?_
 refine yX rfl rfl rfl rfl ?_
 try dsimp only [St.put]
 refine ab rfl (dg rfl ?_)
 try dsimp only [St.put]
 refine ab rfl (cn rfl rfl rfl zG rfl rfl (by rfl) ?_)
 refine yA rfl rfl ?_
 refine yN ?_
 dsimp only [St.put]
 refine K5 _ ?_
 refine fj (i := 3) rfl zG zC ?_
 dsimp only
 refine yS fun _ K6 => ?_
 refine yS fun _ K7 => ?_
 refine yR ?_
 refine yM rfl rfl ?_
 refine aa rfl ((dt (c := false) (f8 rfl rfl rfl) (wu rfl))) ?_
 refine yM rfl rfl ?_
 refine yM rfl rfl ?_
 refine aa rfl ((dt (c := false) (f8 rfl rfl rfl) (wu rfl))) ?_
 refine aa rfl (cj rfl rfl (by constructor)) ?_
 refine yM rfl rfl ?_
 refine yM rfl rfl ?_
 refine aa rfl ((dt (c := false) (f8 rfl rfl rfl) (wu rfl))) ?_
 refine aa rfl (cj rfl rfl (by constructor)) ?_
 refine yM rfl rfl ?_
 refine yE rfl rfl rfl ?_
 refine aa rfl (fh rfl rfl) ?_
 refine aa rfl ((dt (c := false) (uau (x := (⟨0, 1⟩ : ba)) (y := (⟨0, 1⟩ : ba)) rfl rfl rfl) (by rw [decide_eq_true rfl]; rfl))) ?_
 refine aa rfl (cj rfl rfl (by constructor)) ?_
 refine yN ?_
 dsimp only [St.put]
 refine K7 _ ?_
 refine bc rfl (fun h => by cases h) (fun _ => ?_)
 refine bi ?_
 refine K6 _ ?_
 refine yS fun _ K8 => ?_
 refine yR ?_
 try dsimp only [St.put]
 refine ab rfl (oy rfl rfl rfl (ube _ _) ?_)
 try dsimp only [St.put]
 refine ab rfl (az rfl rfl rfl (i9) ?_)
 try dsimp only [St.put]
 refine ab rfl (oy rfl rfl rfl (ube _ _) ?_)
 try dsimp only [St.put]
 refine ab rfl (dg rfl ?_)
 try dsimp only [St.put]
 refine ab rfl (dg rfl ?_)
 try dsimp only [St.put]
 refine ab rfl (dg rfl ?_)
 try dsimp only [St.put]
 refine ab rfl (cn rfl rfl rfl zG rfl rfl (by rfl) ?_)
 try dsimp only [St.put]
 refine ab rfl (cn rfl rfl rfl zG rfl rfl (by rfl) ?_)
 try dsimp only [St.put]
 refine ab rfl (cn rfl rfl rfl zG rfl rfl (by rfl) ?_)
 refine yN ?_
 dsimp only [St.put]
 refine K8 _ ?_
 refine yS fun _ K9 => ?_
 refine yR ?_
 refine aa rfl (cm rfl rfl) ?_
 try dsimp only [St.put]
 refine ae rfl (ci rfl rfl zG trivial (by first | rfl | assumption)) ?_
 try dsimp only [St.put]
 refine aa rfl ((pp (k := 1) rfl rfl zG rfl rfl (by decide))) ?_
 refine aa rfl (cm rfl rfl) ?_
 try dsimp only [St.put]
 refine ab rfl (sd (xs := exPr.pages) (k := 1) (j := 0) (z := ⟨1, 2, 0, -1, [⟨0, 1, 1⟩], []⟩) (z' := ⟨0, 2, 0, -1, [⟨0, 1, 1⟩], []⟩) rfl rfl rfl zG rfl rfl rfl rfl (by decide) rfl ?_)
 refine yN ?_
 dsimp only [St.put]
 refine K9 _ ?_
 refine yS fun _ K10 => ?_
 refine yR ?_
 refine aa rfl (cm rfl rfl) ?_
 refine aa rfl (cm rfl rfl) ?_
 try dsimp only [St.put]
 refine ab rfl (gi rfl rfl rfl zG (by constructor) rfl (by decide) ?_)
 refine yN ?_
 dsimp only [St.put]
 refine K10 _ ?_
 refine yS fun _ K11 => ?_
 refine yR ?_
 refine aa rfl (cm rfl rfl) ?_
 try dsimp only [St.put]
 refine ae rfl (ci rfl rfl zG trivial (by first | rfl | assumption)) ?_
 try dsimp only [St.put]
 refine aa rfl ((pp (k := 0) rfl rfl zG rfl rfl (by decide))) ?_
 refine aa rfl (cm rfl rfl) ?_
 try dsimp only [St.put]
 refine ab rfl (sd (xs := exPr.firsts) (k := 0) (j := 1) (z := ⟨1, 50⟩) (z' := ⟨1, 0⟩) rfl rfl rfl zG rfl rfl rfl rfl (by decide) rfl ?_)
 refine yN ?_
 dsimp only [St.put]
 refine K11 _ ?_
 refine yS fun _ K12 => ?_
 refine o4 (nx + 1 + 1 + 1 + 1 + 1 + 1 + 1) 1 exPr.firsts zG rfl zG (by omega) rfl rfl rfl ?_
 refine o4 (nx + 1 + 1 + 1 + 1 + 1 + 1 + 1) 3 (exPr.pages.set 1 ⟨0, 2, 0, -1, [⟨0, 1, 1⟩], []⟩) zG rfl zG (by omega) rfl rfl rfl ?_
 refine o4 (nx + 1 + 1 + 1 + 1 + 1 + 1 + 1 + 1 + 1) 1 (exPr.firsts.set 0 ⟨1, 0⟩) zG rfl zG (by omega) rfl rfl rfl ?_
 refine o4 (nx + 1 + 1 + 1 + 1 + 1 + 1 + 1 + 1 + 1) 3 exPr.pages zG rfl zG (by omega) rfl rfl rfl ?_
 dsimp only [List.set_cons_zero, List.set_cons_succ]
 refine qh (nx + 1 + 1 + 1 + 1 + 1 + 1 + 1) 1 (cells qd) zG zW ?_
 refine qh (nx + 1 + 1 + 1 + 1 + 1 + 1 + 1 + 1) 2 (cells um) zG zW ?_
 refine qh (nx + 1 + 1 + 1 + 1 + 1 + 1 + 1 + 1 + 1) 1 (cells iq) zG zW ?_
 refine fj (i := 5) rfl zG (by simp [cells]) ?_
 dsimp only
 refine fj (i := 6) rfl zG (by simp [cells]) ?_
 dsimp only
 refine fj (i := 7) rfl zG (by simp [cells]) ?_
 dsimp only
 refine yR ?_
 try dsimp only [St.put]
 refine ab rfl (az rfl rfl rfl (i9) ?_)
 try dsimp only [St.put]
 refine ab rfl ((cx rfl rfl rfl ((wa 0 exPr 2)) zG (by dsimp only [St.put]; omega) ?_))
 refine yM rfl rfl ?_
 refine yX rfl rfl rfl rfl ?_
 refine yX rfl rfl rfl rfl ?_
 refine yA rfl rfl ?_
 refine yN ?_
 dsimp only [St.put]
 refine K12 _ ?_
 refine yS fun _ K13 => ?_
 refine yR ?_
 try dsimp only [St.put]
 refine ab rfl (az rfl rfl rfl (i9) ?_)
 try dsimp only [St.put]
 refine ab rfl ((cx rfl rfl rfl ((we 0 exPr 1)) zG (by dsimp only [St.put]; omega) ?_))
 refine yM rfl rfl ?_
 refine yX rfl rfl rfl rfl ?_
 refine yX rfl rfl rfl rfl ?_
 refine yA rfl rfl ?_
 refine yN ?_
 dsimp only [St.put]
 refine K13 _ ?_
 refine yS fun _ K14 => ?_
 refine yR ?_
 try dsimp only [St.put]
 refine ab rfl (az rfl rfl rfl (i9) ?_)
 try dsimp only [St.put]
 refine ab rfl ((cx rfl rfl rfl ((zz 0 exPr true 1)) zG (by dsimp only [St.put]; omega) ?_))
 refine yM rfl rfl ?_
 refine yX rfl rfl rfl rfl ?_
 refine yX rfl rfl rfl rfl ?_
 refine yA rfl rfl ?_
 refine yA rfl rfl ?_
 refine yN ?_
 dsimp only [St.put]
 refine K14 _ ?_
 refine yS fun _ K15 => ?_
 refine yR ?_
 refine yE rfl rfl rfl ?_
 try dsimp only [St.put]
 refine ab rfl ((cx rfl rfl rfl ((th 0 iq 2)) zG (by dsimp only [St.put]; omega) ?_))
 refine yM rfl rfl ?_
 refine yX rfl rfl rfl rfl ?_
 refine yX rfl rfl rfl rfl ?_
 try dsimp only [St.put]
 refine ab rfl (dg rfl ?_)
 try dsimp only [St.put]
 refine ab rfl (cn rfl rfl rfl zG rfl rfl (by rfl) ?_)
 refine yA rfl rfl ?_
 refine yN ?_
 dsimp only [St.put]
 refine K15 _ ?_
 refine fj (i := 10) rfl zG zC ?_
 dsimp only
 refine yS fun _ K16 => ?_
 refine yR ?_
 refine yE rfl rfl rfl ?_
 try dsimp only [St.put]
 refine ab rfl ((cx rfl rfl rfl ((th 0 iq 0)) zG (by dsimp only [St.put]; omega) ?_))
 refine yM rfl rfl ?_
 refine yX rfl rfl rfl rfl ?_
 refine yX rfl rfl rfl rfl ?_
 try dsimp only [St.put]
 refine ab rfl (dg rfl ?_)
 try dsimp only [St.put]
 refine ab rfl (cn rfl rfl rfl zG rfl rfl (by rfl) ?_)
 refine yA rfl rfl ?_
 refine yN ?_
 dsimp only [St.put]
 refine K16 _ ?_
 refine fj (i := 12) rfl zG zC ?_
 dsimp only
 refine yS fun _ K17 => ?_
 refine yR ?_
 refine yE rfl rfl rfl ?_
 try dsimp only [St.put]
 refine ab rfl ((cx rfl rfl rfl ((zq 0 iq)) zG (by dsimp only [St.put]; omega) ?_))
 refine yM rfl rfl ?_
 refine yX rfl rfl rfl rfl ?_
 refine yX rfl rfl rfl rfl ?_
 refine yA rfl rfl ?_
 refine yA rfl rfl ?_
 refine yN ?_
 dsimp only [St.put]
 refine K17 _ ?_
 refine yS fun _ K18 => ?_
 refine yR ?_
 refine yE rfl rfl rfl ?_
 try dsimp only [St.put]
 refine ab rfl ((cx rfl rfl rfl ((wg 0 iq (-1))) zG (by dsimp only [St.put]; omega) ?_))
 refine yM rfl rfl ?_
 refine yX rfl rfl rfl rfl ?_
 refine yX rfl rfl rfl rfl ?_
 refine yA rfl rfl ?_
 refine yA rfl rfl ?_
 refine yN ?_
 dsimp only [St.put]
 refine K18 _ ?_
 refine yS fun _ K19 => ?_
 refine yR ?_
 refine yE rfl rfl rfl ?_
 try dsimp only [St.put]
 refine ab rfl ((cx rfl rfl rfl ((wg 0 iq 0)) zG (by dsimp only [St.put]; omega) ?_))
 refine yM rfl rfl ?_
 refine yX rfl rfl rfl rfl ?_
 refine yX rfl rfl rfl rfl ?_
 refine yA rfl rfl ?_
 refine yA rfl rfl ?_
 refine yN ?_
 dsimp only [St.put]
 refine K19 _ ?_
 refine yS fun _ K20 => ?_
 refine yR ?_
 refine yE rfl rfl rfl ?_
 try dsimp only [St.put]
 refine ab rfl ((cx rfl rfl rfl ((zr 0 qd)) zG (by dsimp only [St.put]; omega) ?_))
 refine yM rfl rfl ?_
 refine yX rfl rfl rfl rfl ?_
 refine yX rfl rfl rfl rfl ?_
 refine yX rfl rfl rfl rfl ?_
 refine yA rfl rfl ?_
 refine yA rfl rfl ?_
 refine yA rfl rfl ?_
 refine yN ?_
 dsimp only [St.put]
 refine K20 _ ?_
 refine yS fun _ K21 => ?_
 refine yR ?_
 refine yE rfl rfl rfl ?_
 try dsimp only [St.put]
 refine ab rfl ((cx rfl rfl rfl ((zu 0 um)) zG (by dsimp only [St.put]; omega) ?_))
 refine yM rfl rfl ?_
 refine yX rfl rfl rfl rfl ?_
 refine yX rfl rfl rfl rfl ?_
 try dsimp only [St.put]
 refine ab rfl (dg rfl ?_)
 try dsimp only [St.put]
 refine ab rfl (cn rfl rfl rfl zG rfl rfl (by rfl) ?_)
 refine yA rfl rfl ?_
 refine yN ?_
 dsimp only [St.put]
 refine K21 _ ?_
 refine fj (i := 23) rfl zG zC ?_
 dsimp only
 refine yS fun _ K22 => ?_
 refine yR ?_
 refine yE rfl rfl rfl ?_
 try dsimp only [St.put]
 refine ab rfl ((cx rfl rfl rfl ((we 0 iq 0)) zG (by dsimp only [St.put]; omega) ?_))
 refine yM rfl rfl ?_
 refine yX rfl rfl rfl rfl ?_
 refine yX rfl rfl rfl rfl ?_
 try dsimp only [St.put]
 refine ab rfl (dg rfl ?_)
 try dsimp only [St.put]
 refine ab rfl (cn rfl rfl rfl zG rfl rfl (by rfl) ?_)
 refine yA rfl rfl ?_
 refine yN ?_
 dsimp only [St.put]
 refine K22 _ ?_
 refine fj (i := 25) rfl zG zC ?_
 dsimp only
 refine yS fun _ K23 => ?_
 refine yR ?_
 refine yM rfl rfl ?_
 refine aa rfl ((dt (c := true) (eh rfl rfl rfl) (decide_eq_true q1))) ?_
 refine yM rfl rfl ?_
 refine yM rfl rfl ?_
 refine aa rfl ((dt (c := true) (eh rfl rfl rfl) (decide_eq_true q2))) ?_
 refine aa rfl (bz rfl rfl (by constructor)) ?_
 refine yM rfl rfl ?_
 refine yM rfl rfl ?_
 refine aa rfl ((dt (c := true) (eh rfl rfl rfl) (decide_eq_true q3))) ?_
 refine aa rfl (bz rfl rfl (by constructor)) ?_
 refine yM rfl rfl ?_
 refine yM rfl rfl ?_
 refine aa rfl ((dt (c := true) (eh rfl rfl rfl) (decide_eq_true q4))) ?_
 refine aa rfl (bz rfl rfl (by constructor)) ?_
 refine yM rfl rfl ?_
 refine yM rfl rfl ?_
 refine aa rfl ((dt (c := true) (eh rfl rfl rfl) (decide_eq_true q5))) ?_
 refine aa rfl (bz rfl rfl (by constructor)) ?_
 refine yM rfl rfl ?_
 refine yM rfl rfl ?_
 refine aa rfl ((dt (c := true) (eh rfl rfl rfl) (decide_eq_true q6))) ?_
 refine aa rfl (bz rfl rfl (by constructor)) ?_
 refine yM rfl rfl ?_
 refine yM rfl rfl ?_
 refine aa rfl ((dt (c := true) (eh rfl rfl rfl) (decide_eq_true q7))) ?_
 refine aa rfl (bz rfl rfl (by constructor)) ?_
 refine yM rfl rfl ?_
 refine yM rfl rfl ?_
 refine aa rfl ((dt (c := true) (eh rfl rfl rfl) (decide_eq_true q8))) ?_
 refine aa rfl (bz rfl rfl (by constructor)) ?_
 refine yM rfl rfl ?_
 refine yM rfl rfl ?_
 refine aa rfl ((dt (c := true) (eh rfl rfl rfl) (decide_eq_true q9))) ?_
 refine aa rfl (bz rfl rfl (by constructor)) ?_
 refine yM rfl rfl ?_
 refine yM rfl rfl ?_
 refine aa rfl ((dt (c := true) (eh rfl rfl rfl) (decide_eq_true q10))) ?_
 refine aa rfl (bz rfl rfl (by constructor)) ?_
 refine yM rfl rfl ?_
 refine yM rfl rfl ?_
 refine aa rfl ((dt (c := true) (eh rfl rfl rfl) (decide_eq_true q11))) ?_
 refine aa rfl (bz rfl rfl (by constructor)) ?_
 refine yM rfl rfl ?_
 refine yE rfl rfl rfl ?_
 try dsimp only [St.put]
 refine ab rfl ((cx rfl rfl rfl ((zy 0 qd)) zG (by dsimp only [St.put]; omega) ?_))
 refine aa rfl ((dt (c := true) (eh rfl rfl rfl) (decide_eq_true q12))) ?_
 refine aa rfl (bz rfl rfl (by constructor)) ?_
 refine yM rfl rfl ?_
 refine yE rfl rfl rfl ?_
 try dsimp only [St.put]
 refine ab rfl ((cx rfl rfl rfl ((zy 0 iq)) zG (by dsimp only [St.put]; omega) ?_))
 refine aa rfl ((dt (c := true) (eh rfl rfl rfl) (decide_eq_true q13))) ?_
 refine aa rfl (bz rfl rfl (by constructor)) ?_
 refine yA rfl rfl ?_
 refine yN ?_
 dsimp only [St.put]
 refine K23 _ ?_
 refine ay ?_
 refine cg rfl (by constructor) zN zS ?_
 rfl
end Go.Proofs.YtgffhbbcpgdjjaaDoor
namespace Go.AB
open Go Go.RowKit Go.ChangeShapes Go.WideShapes
end Go.AB
namespace Go.Proofs.YtgffhbbcpgdjjaaDoor
set_option maxRecDepth 10000
open Go.ChangeShapes Go.WideShapes Go.ChangeAt Go.RowKit Go.AB
open Go.AB.Enc (cells)
open Go.PB (aq ah PlaceD av ax aw)
theorem ukn : Tryd.prog.underlying 4 = some .bool := by kernel_rfl
theorem ownZ : ownKnob Tryd.prog.godebug = none := by kernel_rfl
end Go.Proofs.YtgffhbbcpgdjjaaDoor
namespace Go.AB
open Go Go.RowKit Go.ChangeShapes Go.WideShapes
open Go.AB.Enc (cells)
open Go.PB (aq ah PlaceD av ax aw bg am af cb ba)
end Go.AB
namespace Go.AB
open Go Go.RowKit Go.ChangeShapes Go.WideShapes
open Go.AB.Enc (cells)
open Go.PB (aq ah PlaceD bg am af cb ba)
def ubu (P : Program) (t : TypeId) : Bool := match P.underlying t with | some (.func _ _ _) => true | _ => false
theorem xj {P : Program} {t : TypeId} (h : ubu P t = true) : ∃ ps rs va, P.underlying t = some (.func ps rs va) := by
 unfold ubu at h
 split at h
 ·rename_i ps rs va he; exact ⟨ps, rs, va, he⟩
 ·cases h
/-- Functions that lie in a variable's cells. -/
theorem ujp {W : World} {b : Nat} {cs : List C} (hne : cs ≠ []) (hone : ∀ c ∈ cs, c.one = true) (us : Nat → Value) (hc : ∀ j, j < cs.length → W.cell? ⟨b, j, none⟩ = some (us j)) (hr : ∀ j c, cs[j]? = some c → R (my W) W c (us j)) : R (my W) W (.elem cs) (.pointer (some ⟨b, 0, none⟩)) := by
 have hl : 0 < cs.length := List.length_pos_iff.2 hne
 refine .elem hne hone (.inr ⟨b, 0, rfl, ?_, fun j hj => by rw [Nat.zero_add]; exact hc j hj⟩) hr
 have := ukf (hc (cs.length - 1) (by omega))
 show 0 + cs.length ≤ qf W b
 omega
theorem uit {P : Program} {f : FuncId} {cs : List C} {v gv : Value} {gc : C} (hp : PureS 0 (.fact gv gc) P f cs (.v v)) {w : World} {args : List Value} (hK : R (my w) w gc gv) (hr : Rs (my w) w cs args) :
  Calls P f args.toArray w fun e w' => e = .returned v ∧ Below w.heap.size w w' :=
 uiu (fun G nx hG => by
  intro E w' as' hrs hsg
  exact hp G nx hG (by obtain ⟨t, _⟩ := hsg.obj 0 _ hG; have := hsg.lt 0 _ t; rw [hsg.nx] at this; exact this) E w' as' hrs hsg) hK hr
/-- a cell of a function's type, as it reads -/
theorem qa {P : Program} {W : World} {t : TypeId} {ps rs : Array TypeId} {va : Bool} {v : Value} {b : UInt8} {r : List UInt8} {f0 : FuncId} (hu : P.underlying t = some (.func ps rs va)) (hv : IsFunc v) (hd : veil (funcToken P) t v = .held (b :: r))
  (hone : ((List.range P.funcs.size).filter fun f => (P.funcs[f]?).any (·.name.toUTF8.data.toList == b :: r)) = [f0]) : v = .func (.func f0) #[] #[] :=
 Go.func_of_trod (w := W) (base := 0) (sp := fun _ => true) (fuel := 1) (q := []) hu hone (by
  have := trod_func (enc := funcToken P) hu (W := W) (base := 0) (sp := fun _ => true) hv 0
  rw [hd] at this
  exact this)
end Go.AB
namespace Go.Proofs.YtgffhbbcpgdjjaaDoor
set_option maxRecDepth 10000
open Go.ChangeShapes Go.WideShapes Go.ChangeAt Go.RowKit Go.AB
open Go.AB.Enc (cells)
open Go.PB (aq ah PlaceD bg am af cb ba)
theorem gSides : Tryd.prog.globalNamed "postil/proof.sides" = some 0 := by kernel_rfl
theorem tSides : (Tryd.prog.globals[0]?).map (·.type) = some 92 := by kernel_rfl
theorem uer : Tryd.prog.underlying 92 = some (.array 2 91) := by kernel_rfl
theorem ukk : Tryd.prog.cellsOf 92 = 6 := by kernel_rfl
theorem ucx : Tryd.prog.cellsOf 91 = 3 := by kernel_rfl
theorem y6 : s3 Tryd.prog 91 [(0, 87, 1), (1, 88, 1), (2, 89, 1)] 3 = true := by kernel_rfl
theorem ub4 : ∃ ps rs va, Tryd.prog.underlying 87 = some (.func ps rs va) := xj (by kernel_rfl)
theorem ub6 : ∃ ps rs va, Tryd.prog.underlying 88 = some (.func ps rs va) := xj (by kernel_rfl)
theorem ub5 : ∃ ps rs va, Tryd.prog.underlying 89 = some (.func ps rs va) := xj (by kernel_rfl)
theorem yw {W : World} {m : Nat} {cs : List Value} {y : DataW (List UInt8) × List MemPlace} {d0 d1 d2 : DataW (List UInt8)} (hy : y.1 = .agg [d0, d1, d2])
  (h : DataW.trod (funcToken Tryd.prog) Tryd.prog W 0 (fun _ => true) true m 91 cs = some y) : ∃ v0 v1 v2, cs = [v0, v1, v2] ∧ (IsFunc v0 ∧ veil (funcToken Tryd.prog) 87 v0 = d0) ∧ (IsFunc v1 ∧ veil (funcToken Tryd.prog) 88 v1 = d1) ∧ (IsFunc v2 ∧ veil (funcToken Tryd.prog) 89 v2 = d2) := by
 obtain ⟨_, fs, he⟩ := ufd y6
 obtain ⟨xs, m', _, e1, hl, hlen, hf⟩ := DataW.trod_struct he h
 rw [ucx] at hl
 have hfs : fs.toList.map (fun f => (f.offset, f.type, Tryd.prog.cellsOf f.type)) = [(0, 87, 1), (1, 88, 1), (2, 89, 1)] := by
  have := y6
  unfold s3 at this
  rw [he] at this
  simp only [Bool.and_eq_true, beq_iff_eq] at this
  exact this.1
 obtain ⟨l⟩ := fs
 match l, hfs with
 | [f0, f1, f2], hfs =>
  simp only [List.map_cons, List.map_nil, List.cons.injEq, Prod.mk.injEq, and_true] at hfs
  obtain ⟨⟨a1, a2, a3⟩, ⟨b1, b2, b3⟩, ⟨c1, c2, c3⟩⟩ := hfs
  have h0 := hf 0 f0 rfl
  have h1 := hf 1 f1 rfl
  have h2 := hf 2 f2 rfl
  match cs, hl with
  | [u0, u1, u2], _ =>
   match xs, hlen with
   | [x0, x1, x2], _ =>
    subst e1
    simp only [List.map_cons, List.map_nil, DataW.agg.injEq, List.cons.injEq, and_true] at hy
    rw [a3, a1, a2] at h0
    rw [b3, b1, b2] at h1
    rw [c3, c1, c2] at h2
    obtain ⟨ps, rs, va, hu⟩ := ub4
    obtain ⟨ps', rs', va', hu'⟩ := ub6
    obtain ⟨ps2, rs2, va2, hu2⟩ := ub5
    obtain ⟨v0, q0, q1, q2⟩ := Go.RowKit.func_of_trod hu h0
    obtain ⟨v1, q3, q4, q5⟩ := Go.RowKit.func_of_trod hu' h1
    obtain ⟨v2, q6, q7, q8⟩ := Go.RowKit.func_of_trod hu2 h2
    have e0 : u0 = v0 := by simpa using q0
    have e1 : u1 = v1 := by simpa using q3
    have e2 : u2 = v2 := by simpa using q6
    subst e0; subst e1; subst e2
    have hx0 : x0 = (veil (funcToken Tryd.prog) 87 u0, []) := by simpa using q2
    have hx1 : x1 = (veil (funcToken Tryd.prog) 88 u1, []) := by simpa using q5
    have hx2 : x2 = (veil (funcToken Tryd.prog) 89 u2, []) := by simpa using q8
    subst hx0; subst hx1; subst hx2
    obtain ⟨k0, k1, k2⟩ := hy
    exact ⟨u0, u1, u2, rfl, ⟨q1, k0⟩, ⟨q4, k1⟩, ⟨q7, k2⟩⟩
 | [], hfs => exact absurd hfs (by simp)
 | [_], hfs => exact absurd hfs (by simp)
 | [_, _], hfs => exact absurd hfs (by simp)
 | _ :: _ :: _ :: _ :: _, hfs => exact absurd hfs (by simp)
theorem ufj {W : World} (h : funcsAt Tryd.prog W "postil/proof.sides" (.agg [.agg [.iface "func" (.lit (.string [112, 111, 115, 116, 105, 108, 47, 112, 114, 111, 111, 102, 46, 115, 105, 100, 101, 115, 36, 49])), .iface "func" (.lit (.string [112, 111, 115, 116, 105, 108, 47, 112, 114, 111, 111, 102, 46, 115, 105, 100, 101, 115, 36, 50])), .iface "func" (.lit (.string [112, 111, 115, 116, 105, 108, 47, 112, 114, 111, 111, 102, 46, 115, 105, 100, 101, 115, 36, 51]))], .agg [.iface "func" (.lit (.string [112, 111, 115, 116, 105, 108, 47, 112, 114, 111, 111, 102, 46, 115, 105, 100, 101, 115, 36, 52])), .iface "func" (.lit (.string [112, 111, 115, 116, 105, 108, 47, 112, 114, 111, 111, 102, 46, 115, 105, 100, 101, 115, 36, 53])), .iface "func" (.lit (.string [112, 111, 115, 116, 105, 108, 47, 112, 114, 111, 111, 102, 46, 115, 105, 100, 101, 115, 36, 54]))]])) : R (my W) W (.elem sidL) (.pointer (some ⟨0, 0, none⟩)) := by
 obtain ⟨g, t, cs, fuel, p, hg, ht, hv, hd⟩ := h
 obtain rfl := Option.some.inj (gSides.symm.trans hg)
 obtain rfl := Option.some.inj (tSides.symm.trans ht)
 obtain ⟨xs, m, _, e1, hl, hn, hel⟩ := DataW.trod_array uer hd
 rw [ukk] at hl
 rw [ucx] at hel
 have hcell := fun i => World.var?_cell hg hv i
 obtain ⟨l⟩ := cs
 dsimp only at hl hel hcell
 match l, hl with
 | [u0, u1, u2, u3, u4, u5], _ =>
  match xs, hn with
  | [x0, x1], _ =>
   simp only [Prod.mk.injEq] at e1
   have e2 : (.agg [.agg [.held [112, 111, 115, 116, 105, 108, 47, 112, 114, 111, 111, 102, 46, 115, 105, 100, 101, 115, 36, 49], .held [112, 111, 115, 116, 105, 108, 47, 112, 114, 111, 111, 102, 46, 115, 105, 100, 101, 115, 36, 50], .held [112, 111, 115, 116, 105, 108, 47, 112, 114, 111, 111, 102, 46, 115, 105, 100, 101, 115, 36, 51]], .agg [.held [112, 111, 115, 116, 105, 108, 47, 112, 114, 111, 111, 102, 46, 115, 105, 100, 101, 115, 36, 52], .held [112, 111, 115, 116, 105, 108, 47, 112, 114, 111, 111, 102, 46, 115, 105, 100, 101, 115, 36, 53], .held [112, 111, 115, 116, 105, 108, 47, 112, 114, 111, 111, 102, 46, 115, 105, 100, 101, 115, 36, 54]]] : DataW (List UInt8)) = .agg [x0.1, x1.1] := e1.1
   simp only [DataW.agg.injEq, List.cons.injEq, and_true] at e2
   obtain ⟨a0, a1, a2, q0, ⟨a3, a4⟩, ⟨a5, a6⟩, ⟨a7, a8⟩⟩ := yw e2.1.symm (hel 0 (by omega))
   obtain ⟨b0, b1, b2, q1, ⟨b3, b4⟩, ⟨b5, b6⟩, ⟨b7, b8⟩⟩ := yw e2.2.symm (hel 1 (by omega))
   simp only [Nat.zero_mul, Nat.one_mul, List.drop_zero, List.drop_succ_cons, List.take_succ_cons, List.take_zero, List.cons.injEq, and_true] at q0 q1
   obtain ⟨rfl, rfl, rfl⟩ := q0
   obtain ⟨rfl, rfl, rfl⟩ := q1
   obtain ⟨ps, rs, va, hu⟩ := ub4
   obtain ⟨ps', rs', va', hu'⟩ := ub6
   obtain ⟨ps2, rs2, va2, hu2⟩ := ub5
   obtain rfl := qa (W := W) (f0 := 145) hu a3 a4 (by kernel_rfl)
   obtain rfl := qa (W := W) (f0 := 146) hu' a5 a6 (by kernel_rfl)
   obtain rfl := qa (W := W) (f0 := 147) hu2 a7 a8 (by kernel_rfl)
   obtain rfl := qa (W := W) (f0 := 148) hu b3 b4 (by kernel_rfl)
   obtain rfl := qa (W := W) (f0 := 149) hu' b5 b6 (by kernel_rfl)
   obtain rfl := qa (W := W) (f0 := 150) hu2 b7 b8 (by kernel_rfl)
   let L : List Value := [.func (.func 145) #[] #[], .func (.func 146) #[] #[], .func (.func 147) #[] #[], .func (.func 148) #[] #[], .func (.func 149) #[] #[], .func (.func 150) #[] #[]]
   refine ujp (by simp [sidL, l9]) (by intro c hc; simp only [sidL, l9, List.cons_append, List.nil_append, List.mem_cons, List.not_mem_nil, or_false] at hc; rcases hc with rfl | rfl | rfl | rfl | rfl | rfl <;> rfl) (fun j => L.getD j undef) (fun j hj => ?_) (fun j c hc => ?_)
   ·have := hcell j
    have hj' : j < 6 := hj
    rw [this]
    show (L.toArray)[j]? = _
    rw [List.getElem?_toArray, List.getD_eq_getElem?_getD, List.getElem?_eq_getElem (show j < L.length from hj')]
    rfl
   ·match j, hc with
    | 0, hc => cases hc; exact Rs.fn (vs := []) Rs.nil
    | 1, hc => cases hc; exact Rs.fn (vs := []) Rs.nil
    | 2, hc => cases hc; exact Rs.fn (vs := []) Rs.nil
    | 3, hc => cases hc; exact Rs.fn (vs := []) Rs.nil
    | 4, hc => cases hc; exact Rs.fn (vs := []) Rs.nil
    | 5, hc => cases hc; exact Rs.fn (vs := []) Rs.nil
abbrev r6 : List (String × DataW Unit) := [("postil/proof.sides", Rows.laid_postil_proof_sides)]
set_option maxRecDepth 100000 in
/-- The door's own heap meets the condition. -/
theorem uj0 (os : Os) (args : Array Value) : laidMetH Tryd.prog r6 ((World.doorLaid Tryd.prog 600 os).forCall (fun _ _ => 0) ⟨#[], args, []⟩).memory :=
 laidMetH_of_parts3 (fuel := 8) (laidMet_of_run' 8 (by kernel_rfl) (by kernel_rfl)) (by kernel_rfl) (by kernel_rfl)
theorem ufi {W : World} (h : laidMetH Tryd.prog r6 W) : R (my W) W (.elem sidL) (.pointer (some ⟨0, 0, none⟩)) := ufj (h.funcs (List.mem_cons_self ..))
end Go.Proofs.YtgffhbbcpgdjjaaDoor
namespace Go.AB
open Go Go.RowKit Go.ChangeShapes Go.WideShapes
section
variable {H : Type} {enc : TypeId × Value → H} {P : Program} {w : World} {base : Nat} {spare : Nat → Bool} {held : Bool}
end
end Go.AB
