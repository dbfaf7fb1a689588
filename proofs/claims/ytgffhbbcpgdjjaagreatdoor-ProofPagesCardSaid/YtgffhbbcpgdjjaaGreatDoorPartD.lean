/-
  What the walks through the program rest on: values, states, steps, calls (RbSides, QdRef, QeRef, KxBefore, QfRef, QgRef, QhRef, QiRef, QjRef, QkRef, PmMore, QlPlain, AbZero, AbGrow, AbCutN, QmRef, RhProves, AbInv, AbMixD, AbInvD, RcAny, AbNew, AbEntry, HdKeys, RcAdd, RiWithout, AbFact).
-/
import Derived.Test.YtgffhbbcpgdjjaaGreatDoorPartC
import Derived.Test.YtgffhbbcpgdjjaaGreatDoorPartB
import Derived.WideKeyEntry
import Derived.Test.YtgffhbbcpgdjjaaGreatDoorPartA
namespace Go.Proofs.YtgffhbbcpgdjjaaGreatDoor
set_option maxRecDepth 10000
open Go Go.RowKit Go.AB
open Go.AB.Enc (cells)
open Go.PB (bg aj PlaceD bn bq bp ck az ak dc ce dr dv)
theorem ui2 (p : ak) : Pure Tryz.prog 135 [val p] (lst p.firsts) := by
 refine di Tryz.func135 rfl (fun m => (co _ _)) fun G nx => ?_
 simp only [Tryz.ntmps135, List.length_cons, List.length_nil, Nat.reduceAdd, Nat.reduceSub]
 refine cp fun hlt => ?_
 dsimp only at hlt
 refine ar fun K1 hK1 => ?_
 refine aw ?_
 try dsimp only [St.put]
 refine af rfl (ip rfl rfl (by simp) ?_)
 refine aa rfl (bf rfl (by constructor)) ?_
 refine av ?_
 dsimp only [St.put]
 refine hK1 _ ?_
 refine ar fun K2 hK2 => ?_
 refine aw ?_
 first | refine aa rfl (br rfl rfl rfl) ?_ | refine aa rfl (cr rfl rfl) ?_
 try dsimp only [St.put]
 first | refine ae rfl (bh rfl rfl) ?_ | refine ae rfl (aq rfl rfl (Enc.len _)) ?_ | refine ae rfl (aq rfl rfl rfl) ?_ | refine ae rfl (bz rfl rfl zG trivial (by first | rfl | assumption)) ?_ | refine ae rfl (ca rfl rfl zG trivial (by rfl)) ?_ | refine ae rfl (cg rfl rfl zG trivial (by simp)) ?_ | refine ae rfl (ax rfl rfl zG trivial (ci (by assumption) rfl)) ?_ | refine ae rfl (ax rfl rfl zG trivial (by assumption)) ?_ | refine ae rfl (cj rfl rfl zG trivial rfl (by assumption) rfl (by decide)) ?_ | refine ae rfl (cd rfl rfl zG (by rfl)) ?_
 refine aa rfl (bf rfl (by constructor)) ?_
 refine av ?_
 dsimp only [St.put]
 refine hK2 _ ?_
 refine bc ?_
 refine bx rfl (by constructor) zN zS ?_
 rfl
theorem ui1 (x : az) : Pure Tryz.prog 136 [val x] (.v (.int .i64 x.fst)) := by
 refine di Tryz.func136 rfl (fun m => .v) fun G nx => ?_
 simp only [Tryz.ntmps136, List.length_cons, List.length_nil, Nat.reduceAdd, Nat.reduceSub]
 refine cp fun hlt => ?_
 dsimp only at hlt
 refine ar fun K1 hK1 => ?_
 refine aw ?_
 try dsimp only [St.put]
 refine af rfl (ip rfl rfl (by simp) ?_)
 refine aa rfl (bf rfl (by constructor)) ?_
 refine av ?_
 dsimp only [St.put]
 refine hK1 _ ?_
 refine ar fun K2 hK2 => ?_
 refine aw ?_
 first | refine aa rfl (br rfl rfl rfl) ?_ | refine aa rfl (cr rfl rfl) ?_
 try dsimp only [St.put]
 first | refine ae rfl (bh rfl rfl) ?_ | refine ae rfl (aq rfl rfl (Enc.len _)) ?_ | refine ae rfl (aq rfl rfl rfl) ?_ | refine ae rfl (bz rfl rfl zG trivial (by first | rfl | assumption)) ?_ | refine ae rfl (ca rfl rfl zG trivial (by rfl)) ?_ | refine ae rfl (cg rfl rfl zG trivial (by simp)) ?_ | refine ae rfl (ax rfl rfl zG trivial (ci (by assumption) rfl)) ?_ | refine ae rfl (ax rfl rfl zG trivial (by assumption)) ?_ | refine ae rfl (cj rfl rfl zG trivial rfl (by assumption) rfl (by decide)) ?_ | refine ae rfl (cd rfl rfl zG (by rfl)) ?_
 refine aa rfl (bf rfl (by constructor)) ?_
 refine av ?_
 dsimp only [St.put]
 refine hK2 _ ?_
 refine bc ?_
 refine bx rfl (by constructor) zN zS ?_
 rfl
theorem ui0 (x : az) : Pure Tryz.prog 137 [val x] (lst x.found) := by
 refine di Tryz.func137 rfl (fun m => (co _ _)) fun G nx => ?_
 simp only [Tryz.ntmps137, List.length_cons, List.length_nil, Nat.reduceAdd, Nat.reduceSub]
 refine cp fun hlt => ?_
 dsimp only at hlt
 refine ar fun K1 hK1 => ?_
 refine aw ?_
 try dsimp only [St.put]
 refine af rfl (ip rfl rfl (by simp) ?_)
 refine aa rfl (bf rfl (by constructor)) ?_
 refine av ?_
 dsimp only [St.put]
 refine hK1 _ ?_
 refine ar fun K2 hK2 => ?_
 refine aw ?_
 first | refine aa rfl (br rfl rfl rfl) ?_ | refine aa rfl (cr rfl rfl) ?_
 try dsimp only [St.put]
 first | refine ae rfl (bh rfl rfl) ?_ | refine ae rfl (aq rfl rfl (Enc.len _)) ?_ | refine ae rfl (aq rfl rfl rfl) ?_ | refine ae rfl (bz rfl rfl zG trivial (by first | rfl | assumption)) ?_ | refine ae rfl (ca rfl rfl zG trivial (by rfl)) ?_ | refine ae rfl (cg rfl rfl zG trivial (by simp)) ?_ | refine ae rfl (ax rfl rfl zG trivial (ci (by assumption) rfl)) ?_ | refine ae rfl (ax rfl rfl zG trivial (by assumption)) ?_ | refine ae rfl (cj rfl rfl zG trivial rfl (by assumption) rfl (by decide)) ?_ | refine ae rfl (cd rfl rfl zG (by rfl)) ?_
 refine aa rfl (bf rfl (by constructor)) ?_
 refine av ?_
 dsimp only [St.put]
 refine hK2 _ ?_
 refine bc ?_
 refine bx rfl (by constructor) zN zS ?_
 rfl
theorem uiz (p : ak) : Pure Tryz.prog 138 [val p] (lst p.seconds) := by
 refine di Tryz.func138 rfl (fun m => (co _ _)) fun G nx => ?_
 simp only [Tryz.ntmps138, List.length_cons, List.length_nil, Nat.reduceAdd, Nat.reduceSub]
 refine cp fun hlt => ?_
 dsimp only at hlt
 refine ar fun K1 hK1 => ?_
 refine aw ?_
 try dsimp only [St.put]
 refine af rfl (ip rfl rfl (by simp) ?_)
 refine aa rfl (bf rfl (by constructor)) ?_
 refine av ?_
 dsimp only [St.put]
 refine hK1 _ ?_
 refine ar fun K2 hK2 => ?_
 refine aw ?_
 first | refine aa rfl (br rfl rfl rfl) ?_ | refine aa rfl (cr rfl rfl) ?_
 try dsimp only [St.put]
 first | refine ae rfl (bh rfl rfl) ?_ | refine ae rfl (aq rfl rfl (Enc.len _)) ?_ | refine ae rfl (aq rfl rfl rfl) ?_ | refine ae rfl (bz rfl rfl zG trivial (by first | rfl | assumption)) ?_ | refine ae rfl (ca rfl rfl zG trivial (by rfl)) ?_ | refine ae rfl (cg rfl rfl zG trivial (by simp)) ?_ | refine ae rfl (ax rfl rfl zG trivial (ci (by assumption) rfl)) ?_ | refine ae rfl (ax rfl rfl zG trivial (by assumption)) ?_ | refine ae rfl (cj rfl rfl zG trivial rfl (by assumption) rfl (by decide)) ?_ | refine ae rfl (cd rfl rfl zG (by rfl)) ?_
 refine aa rfl (bf rfl (by constructor)) ?_
 refine av ?_
 dsimp only [St.put]
 refine hK2 _ ?_
 refine bc ?_
 refine bx rfl (by constructor) zN zS ?_
 rfl
theorem uiy (x : az) : Pure Tryz.prog 139 [val x] (.v (.int .i64 x.snd)) := by
 refine di Tryz.func139 rfl (fun m => .v) fun G nx => ?_
 simp only [Tryz.ntmps139, List.length_cons, List.length_nil, Nat.reduceAdd, Nat.reduceSub]
 refine cp fun hlt => ?_
 dsimp only at hlt
 refine ar fun K1 hK1 => ?_
 refine aw ?_
 try dsimp only [St.put]
 refine af rfl (ip rfl rfl (by simp) ?_)
 refine aa rfl (bf rfl (by constructor)) ?_
 refine av ?_
 dsimp only [St.put]
 refine hK1 _ ?_
 refine ar fun K2 hK2 => ?_
 refine aw ?_
 first | refine aa rfl (br rfl rfl rfl) ?_ | refine aa rfl (cr rfl rfl) ?_
 try dsimp only [St.put]
 first | refine ae rfl (bh rfl rfl) ?_ | refine ae rfl (aq rfl rfl (Enc.len _)) ?_ | refine ae rfl (aq rfl rfl rfl) ?_ | refine ae rfl (bz rfl rfl zG trivial (by first | rfl | assumption)) ?_ | refine ae rfl (ca rfl rfl zG trivial (by rfl)) ?_ | refine ae rfl (cg rfl rfl zG trivial (by simp)) ?_ | refine ae rfl (ax rfl rfl zG trivial (ci (by assumption) rfl)) ?_ | refine ae rfl (ax rfl rfl zG trivial (by assumption)) ?_ | refine ae rfl (cj rfl rfl zG trivial rfl (by assumption) rfl (by decide)) ?_ | refine ae rfl (cd rfl rfl zG (by rfl)) ?_
 refine aa rfl (bf rfl (by constructor)) ?_
 refine av ?_
 dsimp only [St.put]
 refine hK2 _ ?_
 refine bc ?_
 refine bx rfl (by constructor) zN zS ?_
 rfl
theorem uix (x : az) : Pure Tryz.prog 140 [val x] (lst x.well) := by
 refine di Tryz.func140 rfl (fun m => (co _ _)) fun G nx => ?_
 simp only [Tryz.ntmps140, List.length_cons, List.length_nil, Nat.reduceAdd, Nat.reduceSub]
 refine cp fun hlt => ?_
 dsimp only at hlt
 refine ar fun K1 hK1 => ?_
 refine aw ?_
 try dsimp only [St.put]
 refine af rfl (ip rfl rfl (by simp) ?_)
 refine aa rfl (bf rfl (by constructor)) ?_
 refine av ?_
 dsimp only [St.put]
 refine hK1 _ ?_
 refine ar fun K2 hK2 => ?_
 refine aw ?_
 first | refine aa rfl (br rfl rfl rfl) ?_ | refine aa rfl (cr rfl rfl) ?_
 try dsimp only [St.put]
 first | refine ae rfl (bh rfl rfl) ?_ | refine ae rfl (aq rfl rfl (Enc.len _)) ?_ | refine ae rfl (aq rfl rfl rfl) ?_ | refine ae rfl (bz rfl rfl zG trivial (by first | rfl | assumption)) ?_ | refine ae rfl (ca rfl rfl zG trivial (by rfl)) ?_ | refine ae rfl (cg rfl rfl zG trivial (by simp)) ?_ | refine ae rfl (ax rfl rfl zG trivial (ci (by assumption) rfl)) ?_ | refine ae rfl (ax rfl rfl zG trivial (by assumption)) ?_ | refine ae rfl (cj rfl rfl zG trivial rfl (by assumption) rfl (by decide)) ?_ | refine ae rfl (cd rfl rfl zG (by rfl)) ?_
 refine aa rfl (bf rfl (by constructor)) ?_
 refine av ?_
 dsimp only [St.put]
 refine hK2 _ ?_
 refine bc ?_
 refine bx rfl (by constructor) zN zS ?_
 rfl
def sRd (b : Bool) : FuncId := bif b then 138 else 135
def sFt (b : Bool) : FuncId := bif b then 139 else 136
def sFd (b : Bool) : FuncId := bif b then 140 else 137
instance (b : Bool) : Fun Tryz.prog (sRd b) := by
 cases b
 ·exact inferInstanceAs (Fun Tryz.prog 135)
 ·exact inferInstanceAs (Fun Tryz.prog 138)
instance (b : Bool) : Fun Tryz.prog (sFt b) := by
 cases b
 ·exact inferInstanceAs (Fun Tryz.prog 136)
 ·exact inferInstanceAs (Fun Tryz.prog 139)
instance (b : Bool) : Fun Tryz.prog (sFd b) := by
 cases b
 ·exact inferInstanceAs (Fun Tryz.prog 137)
 ·exact inferInstanceAs (Fun Tryz.prog 140)
theorem pg (b : Bool) (p : ak) : Pure Tryz.prog (sRd b) [val p] (lst (ec p b)) := by
 cases b
 ·exact ui2 p
 ·exact uiz p
theorem zb (b : Bool) (x : az) : Pure Tryz.prog (sFt b) [val x] (.v (.int .i64 (fy b x))) := by
 cases b
 ·exact ui1 x
 ·exact uiy x
theorem ucg (b : Bool) (x : az) : Pure Tryz.prog (sFd b) [val x] (lst (dp b x)) := by
 cases b
 ·exact ui0 x
 ·exact uix x
abbrev oe (b : Bool) : List C := [.fn (.func (sRd b)) [], .fn (.func (sFt b)) [], .fn (.func (sFd b)) []]
abbrev sidL : List C := oe false ++ oe true
abbrev fm : GObj := .fact (.pointer (some ⟨0, 0, none⟩)) (.elem sidL)
abbrev kr (p : ak) : List C := [lst p.text, lst p.firsts, lst p.seconds, lst p.pages, lst (p.pages.map fun x => (fh p.text x : Int)), lst (p.pages.map (et p.text)), lst (p.pages.map (eb p.text))]
theorem wa : ∀ {k : Nat}, k < 2 → (sidL.drop (k * 3)).take 3 = oe (decide (k = 1))
 | 0, _ => rfl
 | 1, _ => rfl
 | k + 2, h => by omega
set_option maxHeartbeats 1000000 in
theorem uc2 (p : ak) (b : Bool) (i : Nat) (h : gh p) (hi : i < (ec p b).length) : Pure Tryz.prog 47 [.elem (kr p), .agg (oe b), .v (.int .i64 (i : Int))] (.tup [.v (.int .i64 (o8 p b i)), .v (.int .i64 (pp p b i))]) := by
 refine di Tryz.func47 rfl (fun m => .tup (ct .v (ct .v dj))) fun G nx => ?_
 simp only [Tryz.ntmps47, List.length_cons, List.length_nil, Nat.reduceAdd, Nat.reduceSub]
 refine cp fun hlt => ?_
 dsimp only at hlt
 have hown := udc h b (i : Int)
 have hrd := ucr h b (i : Int)
 have hal := qc h.text
 have hnp := h.np
 have hmb := udy h b i
 obtain ⟨r, hr⟩ : ∃ r, (ec p b)[i]? = some r := d8 hi
 have hmr := ulx hr
 refine ar fun K1 hK1 => ?_
 refine aw ?_
 try dsimp only [St.put]
 refine af rfl (ip rfl rfl (by simp) ?_)
 refine aa rfl (bf rfl (by constructor)) ?_
 refine aa rfl (bf rfl (by constructor)) ?_
 refine av ?_
 dsimp only [St.put]
 refine hK1 _ ?_
 refine ar fun K2 hK2 => ?_
 refine aw ?_
 refine aa rfl (bf rfl (by constructor)) ?_
 refine aa rfl (bf rfl (by constructor)) ?_
 refine av ?_
 dsimp only [St.put]
 refine hK2 _ ?_
 refine ar fun K3 hK3 => ?_
 refine ar fun K4 hK4 => ?_
 refine aw ?_
 refine aa rfl (ba rfl (by constructor)) ?_
 first | refine aa rfl (ku rfl rfl) ?_ | refine aa rfl (jn rfl rfl) ?_ | refine aa rfl (uf rfl rfl) ?_
 first | refine aa rfl (br rfl rfl rfl) ?_ | refine aa rfl (cr rfl rfl) ?_
 first | refine aa rfl (br rfl rfl rfl) ?_ | refine aa rfl (cr rfl rfl) ?_
 try dsimp only [St.put]
 first | refine ae rfl (bh rfl rfl) ?_ | refine ae rfl (aq rfl rfl (Enc.len _)) ?_ | refine ae rfl (aq rfl rfl rfl) ?_ | refine ae rfl (bz rfl rfl zG trivial (by first | rfl | assumption)) ?_ | refine ae rfl (ca rfl rfl zG trivial (by rfl)) ?_ | refine ae rfl (cg rfl rfl zG trivial (by simp)) ?_ | refine ae rfl (ax rfl rfl zG trivial (ci (by assumption) rfl)) ?_ | refine ae rfl (ax rfl rfl zG trivial (by assumption)) ?_ | refine ae rfl (cj rfl rfl zG trivial rfl (by assumption) rfl (by decide)) ?_ | refine ae rfl (cd rfl rfl zG (by rfl)) ?_
 first | refine aa rfl (bj rfl rfl (List.length_map _)) ?_ | refine aa rfl (bj rfl rfl rfl) ?_ | refine aa rfl (f7 rfl rfl) ?_ | refine aa rfl (gd rfl rfl) ?_ | refine aa rfl (ga rfl rfl) ?_ | refine aa rfl (f9 rfl rfl (by omega)) ?_
 refine aa rfl (ba rfl (by constructor)) ?_
 refine av ?_
 dsimp only [St.put]
 refine hK4 _ ?_
 refine cb ?_
 refine dh 20 ?_
 refine zQ ?_
 refine du (G) zX ?_
 dsimp only
 refine dz (X := Nat) (fun k => k ≤ p.pages.length) (fun k => p.pages.length - k) (fun k => [(8, .v (.int .i64 ((ez (p.pages.take k) (ib b (i : Int)) : Nat) : Int))), (9, .v (.int .i64 ((ez (p.pages.take k) (jc p.text b (i : Int)) : Nat) : Int))), (10, .any), (11, .any), (19, .v (.int .i64 (k : Int)))]) (fun k G' => G') 0 rfl ?_ ?_ (fun _ _ h => h) ?_ ?_ ?_
 ·exact Nat.zero_le _
 ·exact zF
 ·rintro k hI
  exact zL
 ·exact fun _ _ _ _ h => .inl h
 ·rintro k hI
  dsimp only at hI ⊢
  refine ar fun K5 hK5 => ?_
  refine aw ?_
  refine aa rfl (c5 rfl rfl rfl) ?_
  refine av ?_
  dsimp only [St.put]
  refine hK5 _ ?_
  refine ar fun K6 hK6 => ?_
  refine bd rfl (fun hc => ?_) (fun hc => ?_)
  ·replace hc := of_decide_eq_true hc
   obtain ⟨x, hx⟩ : ∃ x, p.pages[k]? = some x := d8 (by omega)
   have hax : (p.pages.map (et p.text))[k]? = some (et p.text x) := by rw [List.getElem?_map, hx]; rfl
   have hp := pageB_true.1 (h.page k x hx)
   have hfd : (dp b x).length ≤ 600 := by
    have hfl := px hp.found
    have hwl := px hp.well
    cases b
    ·show x.found.length ≤ 600
     omega
    ·show x.well.length ≤ 600
     omega
   have hgl := u6 p.text x
   have ht1 := ubz (l := p.pages) (g := ib b (i : Int)) k
   have ht2 := ubz (l := p.pages) (g := jc p.text b (i : Int)) k
   refine bi ?_
   refine hK6 _ ?_
   refine ar fun K7 hK7 => ?_
   refine cb ?_
   refine ar fun K8 hK8 => ?_
   refine aw ?_
   refine aa rfl (ba rfl (by constructor)) ?_
   try dsimp only [St.put]
   first | refine aa rfl (bk rfl rfl rfl rfl (bu (by assumption)) (Enc.len _)) ?_ | refine aa rfl (bk rfl rfl rfl rfl (by assumption) rfl) ?_ | refine aa rfl (g4 rfl rfl rfl (by first | exact g6 _ | exact rfl) (by omega)) ?_ | refine aa rfl (bk rfl rfl rfl (by omega) (bu (by assumption)) (Enc.len _)) ?_
   try dsimp only [St.put]
   first | refine ae rfl (bh rfl rfl) ?_ | refine ae rfl (aq rfl rfl (Enc.len _)) ?_ | refine ae rfl (aq rfl rfl rfl) ?_ | refine ae rfl (bz rfl rfl zG trivial (by first | rfl | assumption)) ?_ | refine ae rfl (ca rfl rfl zG trivial (by rfl)) ?_ | refine ae rfl (cg rfl rfl zG trivial (by simp)) ?_ | refine ae rfl (ax rfl rfl zG trivial (ci (by assumption) rfl)) ?_ | refine ae rfl (ax rfl rfl zG trivial (by assumption)) ?_ | refine ae rfl (cj rfl rfl zG trivial rfl (by assumption) rfl (by decide)) ?_ | refine ae rfl (cd rfl rfl zG (by rfl)) ?_
   try dsimp only [St.put]
   refine af rfl (dt rfl ?_)
   refine aa rfl (bf rfl (by constructor)) ?_
   try dsimp only [St.put]
   first | refine af rfl (da rfl rfl rfl zG rfl rfl (by rfl) ?_) | refine af rfl (g7 rfl rfl rfl zG (by constructor) rfl zO ?_)
   refine av ?_
   dsimp only [St.put]
   refine hK8 _ ?_
   refine gl (i := 11) rfl zG zC ?_
   dsimp only
   refine ar fun K9 hK9 => ?_
   refine aw ?_
   first | refine aa rfl (br rfl rfl rfl) ?_ | refine aa rfl (cr rfl rfl) ?_
   try dsimp only [St.put]
   first | refine ae rfl (bh rfl rfl) ?_ | refine ae rfl (aq rfl rfl (Enc.len _)) ?_ | refine ae rfl (aq rfl rfl rfl) ?_ | refine ae rfl (bz rfl rfl zG trivial (by first | rfl | assumption)) ?_ | refine ae rfl (ca rfl rfl zG trivial (by rfl)) ?_ | refine ae rfl (cg rfl rfl zG trivial (by simp)) ?_ | refine ae rfl (ax rfl rfl zG trivial (ci (by assumption) rfl)) ?_ | refine ae rfl (ax rfl rfl zG trivial (by assumption)) ?_ | refine ae rfl (cj rfl rfl zG trivial rfl (by assumption) rfl (by decide)) ?_ | refine ae rfl (cd rfl rfl zG (by rfl)) ?_
   try dsimp only [St.put]
   first | refine ae rfl (bh rfl rfl) ?_ | refine ae rfl (aq rfl rfl (Enc.len _)) ?_ | refine ae rfl (aq rfl rfl rfl) ?_ | refine ae rfl (bz rfl rfl zG trivial (by first | rfl | assumption)) ?_ | refine ae rfl (ca rfl rfl zG trivial (by rfl)) ?_ | refine ae rfl (cg rfl rfl zG trivial (by simp)) ?_ | refine ae rfl (ax rfl rfl zG trivial (ci (by assumption) rfl)) ?_ | refine ae rfl (ax rfl rfl zG trivial (by assumption)) ?_ | refine ae rfl (cj rfl rfl zG trivial rfl (by assumption) rfl (by decide)) ?_ | refine ae rfl (cd rfl rfl zG (by rfl)) ?_
   try dsimp only [St.put]
   refine af rfl (bl rfl rfl rfl (zb b x) ?_)
   refine aa rfl (ba rfl (by constructor)) ?_
   refine aa rfl (f3 rfl rfl rfl) ?_
   refine av ?_
   dsimp only [St.put]
   refine hK9 _ ?_
   refine bd rfl (fun hc => ?_) (fun hc => ?_)
   ·have hyes : fy b x = (i : Int) := of_decide_eq_true hc
    refine ar fun K10 hK10 => ?_
    refine aw ?_
    refine aa rfl (ba rfl (by constructor)) ?_
    first | refine aa rfl (br rfl rfl rfl) ?_ | refine aa rfl (cr rfl rfl) ?_
    try dsimp only [St.put]
    first | refine ae rfl (bh rfl rfl) ?_ | refine ae rfl (aq rfl rfl (Enc.len _)) ?_ | refine ae rfl (aq rfl rfl rfl) ?_ | refine ae rfl (bz rfl rfl zG trivial (by first | rfl | assumption)) ?_ | refine ae rfl (ca rfl rfl zG trivial (by rfl)) ?_ | refine ae rfl (cg rfl rfl zG trivial (by simp)) ?_ | refine ae rfl (ax rfl rfl zG trivial (ci (by assumption) rfl)) ?_ | refine ae rfl (ax rfl rfl zG trivial (by assumption)) ?_ | refine ae rfl (cj rfl rfl zG trivial rfl (by assumption) rfl (by decide)) ?_ | refine ae rfl (cd rfl rfl zG (by rfl)) ?_
    try dsimp only [St.put]
    first | refine ae rfl (bh rfl rfl) ?_ | refine ae rfl (aq rfl rfl (Enc.len _)) ?_ | refine ae rfl (aq rfl rfl rfl) ?_ | refine ae rfl (bz rfl rfl zG trivial (by first | rfl | assumption)) ?_ | refine ae rfl (ca rfl rfl zG trivial (by rfl)) ?_ | refine ae rfl (cg rfl rfl zG trivial (by simp)) ?_ | refine ae rfl (ax rfl rfl zG trivial (ci (by assumption) rfl)) ?_ | refine ae rfl (ax rfl rfl zG trivial (by assumption)) ?_ | refine ae rfl (cj rfl rfl zG trivial rfl (by assumption) rfl (by decide)) ?_ | refine ae rfl (cd rfl rfl zG (by rfl)) ?_
    try dsimp only [St.put]
    refine af rfl (bl rfl rfl rfl (ucg b x) ?_)
    first | refine aa rfl (bj rfl rfl (List.length_map _)) ?_ | refine aa rfl (bj rfl rfl rfl) ?_ | refine aa rfl (f7 rfl rfl) ?_ | refine aa rfl (gd rfl rfl) ?_ | refine aa rfl (ga rfl rfl) ?_ | refine aa rfl (f9 rfl rfl (by omega)) ?_
    first | refine aa rfl (cm rfl rfl rfl (by omega)) ?_ | refine aa rfl (il rfl rfl rfl) ?_
    refine aa rfl (bf rfl (by constructor)) ?_
    refine av ?_
    dsimp only [St.put]
    refine hK10 _ ?_
    refine aw ?_
    refine aa rfl (ba rfl (by constructor)) ?_
    refine aa rfl (ba rfl (by constructor)) ?_
    first | refine aa rfl (ku rfl rfl) ?_ | refine aa rfl (jn rfl rfl) ?_ | refine aa rfl (uf rfl rfl) ?_
    first | refine aa rfl (br rfl rfl rfl) ?_ | refine aa rfl (cr rfl rfl) ?_
    try dsimp only [St.put]
    first | refine ae rfl (bh rfl rfl) ?_ | refine ae rfl (aq rfl rfl (Enc.len _)) ?_ | refine ae rfl (aq rfl rfl rfl) ?_ | refine ae rfl (bz rfl rfl zG trivial (by first | rfl | assumption)) ?_ | refine ae rfl (ca rfl rfl zG trivial (by rfl)) ?_ | refine ae rfl (cg rfl rfl zG trivial (by simp)) ?_ | refine ae rfl (ax rfl rfl zG trivial (ci (by assumption) rfl)) ?_ | refine ae rfl (ax rfl rfl zG trivial (by assumption)) ?_ | refine ae rfl (cj rfl rfl zG trivial rfl (by assumption) rfl (by decide)) ?_ | refine ae rfl (cd rfl rfl zG (by rfl)) ?_
    refine aa rfl (ba rfl (by constructor)) ?_
    try dsimp only [St.put]
    first | refine aa rfl (bk rfl rfl rfl rfl (bu (by assumption)) (Enc.len _)) ?_ | refine aa rfl (bk rfl rfl rfl rfl (by assumption) rfl) ?_ | refine aa rfl (g4 rfl rfl rfl (by first | exact g6 _ | exact rfl) (by omega)) ?_ | refine aa rfl (bk rfl rfl rfl (by omega) (bu (by assumption)) (Enc.len _)) ?_
    try dsimp only [St.put]
    first | refine ae rfl (bh rfl rfl) ?_ | refine ae rfl (aq rfl rfl (Enc.len _)) ?_ | refine ae rfl (aq rfl rfl rfl) ?_ | refine ae rfl (bz rfl rfl zG trivial (by first | rfl | assumption)) ?_ | refine ae rfl (ca rfl rfl zG trivial (by rfl)) ?_ | refine ae rfl (cg rfl rfl zG trivial (by simp)) ?_ | refine ae rfl (ax rfl rfl zG trivial (ci (by assumption) rfl)) ?_ | refine ae rfl (ax rfl rfl zG trivial (by assumption)) ?_ | refine ae rfl (cj rfl rfl zG trivial rfl (by assumption) rfl (by decide)) ?_ | refine ae rfl (cd rfl rfl zG (by rfl)) ?_
    first | refine aa rfl (bj rfl rfl (List.length_map _)) ?_ | refine aa rfl (bj rfl rfl rfl) ?_ | refine aa rfl (f7 rfl rfl) ?_ | refine aa rfl (gd rfl rfl) ?_ | refine aa rfl (ga rfl rfl) ?_ | refine aa rfl (f9 rfl rfl (by omega)) ?_
    first | refine aa rfl (cm rfl rfl rfl (by omega)) ?_ | refine aa rfl (il rfl rfl rfl) ?_
    refine aa rfl (bf rfl (by constructor)) ?_
    refine av ?_
    dsimp only [St.put]
    refine hK7 _ ?_
    refine aw ?_
    first | refine aa rfl (cm rfl rfl rfl (by omega)) ?_ | refine aa rfl (il rfl rfl rfl) ?_
    refine aa rfl (ba rfl (by constructor)) ?_
    refine av ?_
    dsimp only [St.put]
    have e1 := th (g := ib b (i : Int)) hx
    have e2 := th (g := jc p.text b (i : Int)) hx
    first
    | (have z : fy b x = (i : Int) := hyes
       rw [show ((ez (p.pages.take k) (ib b (i : Int)) : Nat) : Int) + ((dp b x).length : Int) = ((ez (p.pages.take (k + 1)) (ib b (i : Int)) : Nat) : Int) by rw [e1]; unfold ib; rw [decide_eq_true z, cond_true]; rfl, show ((ez (p.pages.take k) (jc p.text b (i : Int)) : Nat) : Int) + ((et p.text x).length : Int) = ((ez (p.pages.take (k + 1)) (jc p.text b (i : Int)) : Nat) : Int) by rw [e2]; unfold jc; rw [decide_eq_true z, cond_true]; rfl]
       exact ⟨k + 1, by omega, by omega, ⟨⟨rfl, rfl⟩, zF, zB, zN, zX⟩⟩)
    | (have z : ¬ fy b x = (i : Int) := hno
       rw [show ez (p.pages.take k) (ib b (i : Int)) = ez (p.pages.take (k + 1)) (ib b (i : Int)) by rw [e1]; unfold ib; rw [decide_eq_false z]; rfl, show ez (p.pages.take k) (jc p.text b (i : Int)) = ez (p.pages.take (k + 1)) (jc p.text b (i : Int)) by rw [e2]; unfold jc; rw [decide_eq_false z]; rfl]
       exact ⟨k + 1, by omega, by omega, ⟨⟨rfl, rfl⟩, zF, zB, zN, zX⟩⟩)
   ·have hno : ¬ fy b x = (i : Int) := of_decide_eq_false hc
    refine bi ?_
    refine hK7 _ ?_
    refine aw ?_
    first | refine aa rfl (cm rfl rfl rfl (by omega)) ?_ | refine aa rfl (il rfl rfl rfl) ?_
    refine aa rfl (ba rfl (by constructor)) ?_
    refine av ?_
    dsimp only [St.put]
    have e1 := th (g := ib b (i : Int)) hx
    have e2 := th (g := jc p.text b (i : Int)) hx
    first
    | (have z : fy b x = (i : Int) := hyes
       rw [show ((ez (p.pages.take k) (ib b (i : Int)) : Nat) : Int) + ((dp b x).length : Int) = ((ez (p.pages.take (k + 1)) (ib b (i : Int)) : Nat) : Int) by rw [e1]; unfold ib; rw [decide_eq_true z, cond_true]; rfl, show ((ez (p.pages.take k) (jc p.text b (i : Int)) : Nat) : Int) + ((et p.text x).length : Int) = ((ez (p.pages.take (k + 1)) (jc p.text b (i : Int)) : Nat) : Int) by rw [e2]; unfold jc; rw [decide_eq_true z, cond_true]; rfl]
       exact ⟨k + 1, by omega, by omega, ⟨⟨rfl, rfl⟩, zF, zB, zN, zX⟩⟩)
    | (have z : ¬ fy b x = (i : Int) := hno
       rw [show ez (p.pages.take k) (ib b (i : Int)) = ez (p.pages.take (k + 1)) (ib b (i : Int)) by rw [e1]; unfold ib; rw [decide_eq_false z]; rfl, show ez (p.pages.take k) (jc p.text b (i : Int)) = ez (p.pages.take (k + 1)) (jc p.text b (i : Int)) by rw [e2]; unfold jc; rw [decide_eq_false z]; rfl]
       exact ⟨k + 1, by omega, by omega, ⟨⟨rfl, rfl⟩, zF, zB, zN, zX⟩⟩)
  ·replace hc := of_decide_eq_false hc
   obtain rfl : k = p.pages.length := by omega
   rw [g9 (Nat.le_refl p.pages.length)]
   refine dq ?_
   refine hK3 _ ?_
   refine ar fun K11 hK11 => ?_
   refine g8 [(0, none), (1, none), (2, none), (3, none), (4, none), (5, none), (6, none), (7, none), (9, none), (8, none), (10, none), (11, none), (12, none), (13, none), (14, none), (15, none)] (fun i => [8, 12].contains i) (fun i => [8, 12].contains i) (fun i => [0, 1, 2, 4, 5, 6, 9, 10, 11, 13, 14, 15].contains i) [] (by kernel_rfl) (by kernel_rfl) ?_
   refine ah rfl rfl rfl rfl (ba rfl (by constructor)) ?_
   refine ah rfl rfl rfl rfl (zz rfl rfl rfl (by omega)) ?_
   first | refine ah rfl rfl rfl rfl (br rfl rfl rfl) ?_ | refine ah rfl rfl rfl rfl (cr rfl rfl) ?_
   try dsimp only [St.put]
   first | refine ai rfl rfl rfl rfl (bh rfl rfl) ?_ | refine ai rfl rfl rfl rfl (aq rfl rfl (Enc.len _)) ?_ | refine ai rfl rfl rfl rfl (aq rfl rfl rfl) ?_ | refine ai rfl rfl rfl rfl (bz rfl rfl zG (by simp) (by first | rfl | assumption)) ?_ | refine ai rfl rfl rfl rfl (ca rfl rfl zG (by simp) (by rfl)) ?_ | refine ai rfl rfl rfl rfl (cg rfl rfl zG (by simp) (by simp)) ?_ | refine ai rfl rfl rfl rfl (ax rfl rfl zG (by simp) (ci (by assumption) rfl)) ?_ | refine ai rfl rfl rfl rfl (ax rfl rfl zG (by simp) (by assumption)) ?_ | refine ai rfl rfl rfl rfl (cj rfl rfl zG (by simp) rfl (by assumption) rfl (by decide)) ?_ | refine ai rfl rfl rfl rfl (cd rfl rfl zG (by rfl)) ?_
   refine ah rfl rfl rfl rfl (ba rfl (by constructor)) ?_
   first | refine ah rfl rfl rfl rfl (ku rfl rfl) ?_ | refine ah rfl rfl rfl rfl (jn rfl rfl) ?_ | refine ah rfl rfl rfl rfl (uf rfl rfl) ?_
   first | refine ah rfl rfl rfl rfl (br rfl rfl rfl) ?_ | refine ah rfl rfl rfl rfl (cr rfl rfl) ?_
   try dsimp only [St.put]
   refine ai rfl rfl rfl rfl (c := val p) (jb (cs := kr p) rfl rfl (show 4 ≤ 7 by decide)) ?_
   refine ah rfl rfl rfl rfl (ba rfl (by constructor)) ?_
   refine j4 ?_
   try dsimp only [St.put]
   refine gg rfl rfl rfl rfl (bl rfl rfl rfl (pg b p) ?_)
   try dsimp only [St.put]
   first | refine eo rfl rfl rfl rfl (bk rfl rfl rfl rfl (bu (by assumption)) (Enc.len _)) ?_ | refine eo rfl rfl rfl rfl (bk rfl rfl rfl rfl (by assumption) rfl) ?_ | refine eo rfl rfl rfl rfl (g4 rfl rfl rfl (by first | exact g6 _ | exact rfl) (by omega)) ?_ | refine eo rfl rfl rfl rfl (bk rfl rfl rfl (by omega) (bu (by assumption)) (Enc.len _)) ?_
   first | refine eo rfl rfl rfl rfl (br rfl rfl rfl) ?_ | refine eo rfl rfl rfl rfl (cr rfl rfl) ?_
   try dsimp only [St.put]
   first | refine gg rfl rfl rfl rfl (SStep.e' (D := fun _ => True) (bh rfl rfl) ?_) | refine gg rfl rfl rfl rfl (SStep.e' (D := fun _ => True) (aq rfl rfl (Enc.len _)) ?_) | refine gg rfl rfl rfl rfl (SStep.e' (D := fun _ => True) (aq rfl rfl rfl) ?_) | refine gg rfl rfl rfl rfl (SStep.e' (D := fun _ => True) (bz rfl rfl zG trivial (by first | rfl | assumption)) ?_) | refine gg rfl rfl rfl rfl (SStep.e' (D := fun _ => True) (ca rfl rfl zG trivial (by rfl)) ?_) | refine gg rfl rfl rfl rfl (SStep.e' (D := fun _ => True) (cg rfl rfl zG trivial (by simp)) ?_) | refine gg rfl rfl rfl rfl (SStep.e' (D := fun _ => True) (ax rfl rfl zG trivial (ci (by assumption) rfl)) ?_) | refine gg rfl rfl rfl rfl (SStep.e' (D := fun _ => True) (ax rfl rfl zG trivial (by assumption)) ?_) | refine gg rfl rfl rfl rfl (SStep.e' (D := fun _ => True) (cj rfl rfl zG trivial rfl (by assumption) rfl (by decide)) ?_) | refine gg rfl rfl rfl rfl (SStep.e' (D := fun _ => True) (cd rfl rfl zG (by rfl)) ?_)
   first | refine ah rfl rfl rfl rfl (ir rfl rfl rfl (by omega)) ?_ | refine eo rfl rfl rfl rfl (ir rfl rfl rfl (by omega)) ?_ | refine qy rfl rfl rfl (ir rfl rfl rfl (by omega)) ?_
   first | refine ah rfl rfl rfl rfl (ue rfl rfl rfl (by omega) (by omega)) ?_ | refine eo rfl rfl rfl rfl (ue rfl rfl rfl (by omega) (by omega)) ?_ | refine qy rfl rfl rfl (ue rfl rfl rfl (by omega) (by omega)) ?_
   refine eo rfl rfl rfl rfl (bf rfl (by constructor)) ?_
   refine j3 ?_
   dsimp only [St.put]
   rw [show (100 * ((ez p.pages (ib b (i : Int)) : Nat) : Int)) / (100 - r.miss) = o8 p b i by unfold o8; rw [hmr]]
   have hbd := uf8 h b i
   refine hK11 _ ?_
   refine ar fun K12 hK12 => ?_
   refine aw ?_
   refine aa rfl (ba rfl (by constructor)) ?_
   refine aa rfl (ba rfl (by constructor)) ?_
   refine aa rfl (ba rfl (by constructor)) ?_
   first | refine aa rfl (ir rfl rfl rfl (by omega)) ?_ | refine aa rfl (ru rfl rfl rfl) ?_
   refine aa rfl (bf rfl (by constructor)) ?_
   refine aa rfl (bf rfl (by constructor)) ?_
   refine av ?_
   dsimp only [St.put]
   refine hK12 _ ?_
   refine bc ?_
   refine jk rfl (by constructor) (by constructor) zN zS ?_ ?_
   ·rfl
   ·exact vi (by unfold pp; rfl)
end Go.Proofs.YtgffhbbcpgdjjaaGreatDoor
namespace Go.AB
open Go Go.RowKit
open Go.AB.Enc (cells)
open Go.PB (bg aj PlaceD bn bq bp ck az ak dc ce dr dv)
theorem ujy {p : ak} (h : gh p) {j : Nat} {x : az} (hx : p.pages[j]? = some x) {k : Nat} (hk : k < (dw p x).length) : ∃ zn : Nat, (dw p x)[k]? = some (zn : Int) ∧ zn ≤ 6 := by
 have hp := pageB_true.1 (h.page j x hx)
 have h1 := hp.fst
 have h2 := hp.snd
 have h3 := h.nf
 have h4 := h.ns
 obtain ⟨z, hz⟩ : ∃ z, (dw p x)[k]? = some z := ⟨_, List.getElem?_eq_getElem hk⟩
 have hm := List.mem_of_getElem? hz
 have hb : 0 ≤ z ∧ z ≤ 6 := by
  unfold dw at hm
  rw [List.mem_append] at hm
  rcases hm with hm | hm
  ·by_cases q : 0 ≤ x.fst
   ·rw [decide_eq_true q, cond_true, List.mem_singleton] at hm; omega
   ·rw [decide_eq_false q] at hm; cases hm
  ·by_cases q : 0 ≤ x.snd
   ·rw [decide_eq_true q, cond_true, List.mem_singleton] at hm; omega
   ·rw [decide_eq_false q] at hm; cases hm
 exact ⟨z.toNat, by rw [hz]; congr 1; omega, by omega⟩
theorem zg (p : ak) (x : az) : (dw p x).length ≤ 2 := by
 unfold dw
 rw [List.length_append]
 cases decide (0 ≤ x.fst) <;> cases decide (0 ≤ x.snd) <;> simp
end Go.AB
namespace Go.Proofs.YtgffhbbcpgdjjaaGreatDoor
set_option maxRecDepth 10000
open Go.RowKit Go.AB
open Go.AB.Enc (cells)
open Go.PB (bg aj PlaceD bn bq bp ck az ak dc ce dr dv)
end Go.Proofs.YtgffhbbcpgdjjaaGreatDoor
namespace Go.Proofs.YtgffhbbcpgdjjaaGreatDoor
set_option maxRecDepth 10000
open Go.RowKit Go.AB
open Go.AB.Enc (cells)
open Go.PB (bg aj PlaceD bn bq bp ck az ak dc ce dr dv)
end Go.Proofs.YtgffhbbcpgdjjaaGreatDoor
namespace Go.AB
open Go Go.RowKit
open Go.AB.Enc (cells)
open Go.PB (bg aj PlaceD bn bq bp)
theorem lt3 {a b c a' b' c' : Int} : fj [a, b, c] [a', b', c'] < 0 ↔ a < a' ∨ a = a' ∧ (b < b' ∨ b = b' ∧ c < c') := by
 rw [n3 (a := [a, b, c]) (b := [a', b', c']) rfl]; simp [ltW]
end Go.AB
namespace Go.Proofs.YtgffhbbcpgdjjaaGreatDoor
set_option maxRecDepth 10000
open Go.RowKit Go.AB
open Go.AB.Enc (cells)
open Go.PB (bg aj PlaceD bn bq bp)
theorem uha (a b : PlaceD) : Pure Tryz.prog 92 [val a, val b] (.v (.bool (decide (fj (dl a) (dl b) < 0)))) := by
 refine di Tryz.func92 rfl (fun m => .v) fun G nx => ?_
 simp only [Tryz.ntmps92, List.length_cons, List.length_nil, Nat.reduceAdd, Nat.reduceSub]
 refine cp fun hlt => ?_
 dsimp only at hlt
 refine ar fun K1 hK1 => ?_
 refine aw ?_
 try dsimp only [St.put]
 refine af rfl (ip rfl rfl (by simp) ?_)
 try dsimp only [St.put]
 refine af rfl (ip rfl rfl (by simp) ?_)
 refine aa rfl (bf rfl (by constructor)) ?_
 refine av ?_
 dsimp only [St.put]
 refine hK1 _ ?_
 refine ar fun K2 hK2 => ?_
 refine ar fun K3 hK3 => ?_
 refine aw ?_
 first | refine aa rfl (br rfl rfl rfl) ?_ | refine aa rfl (cr rfl rfl) ?_
 try dsimp only [St.put]
 first | refine ae rfl (bh rfl rfl) ?_ | refine ae rfl (aq rfl rfl (Enc.len _)) ?_ | refine ae rfl (aq rfl rfl rfl) ?_ | refine ae rfl (bz rfl rfl zG trivial (by first | rfl | assumption)) ?_ | refine ae rfl (ca rfl rfl zG trivial (by rfl)) ?_ | refine ae rfl (cg rfl rfl zG trivial (by simp)) ?_ | refine ae rfl (ax rfl rfl zG trivial (ci (by assumption) rfl)) ?_ | refine ae rfl (ax rfl rfl zG trivial (by assumption)) ?_ | refine ae rfl (cj rfl rfl zG trivial rfl (by assumption) rfl (by decide)) ?_ | refine ae rfl (cd rfl rfl zG (by rfl)) ?_
 first | refine aa rfl (br rfl rfl rfl) ?_ | refine aa rfl (cr rfl rfl) ?_
 try dsimp only [St.put]
 first | refine ae rfl (bh rfl rfl) ?_ | refine ae rfl (aq rfl rfl (Enc.len _)) ?_ | refine ae rfl (aq rfl rfl rfl) ?_ | refine ae rfl (bz rfl rfl zG trivial (by first | rfl | assumption)) ?_ | refine ae rfl (ca rfl rfl zG trivial (by rfl)) ?_ | refine ae rfl (cg rfl rfl zG trivial (by simp)) ?_ | refine ae rfl (ax rfl rfl zG trivial (ci (by assumption) rfl)) ?_ | refine ae rfl (ax rfl rfl zG trivial (by assumption)) ?_ | refine ae rfl (cj rfl rfl zG trivial rfl (by assumption) rfl (by decide)) ?_ | refine ae rfl (cd rfl rfl zG (by rfl)) ?_
 refine aa rfl (fq rfl rfl rfl) ?_
 refine av ?_
 dsimp only [St.put]
 refine hK3 _ ?_
 refine bd rfl (fun hc => ?_) (fun hc => ?_)
 ·have h1 : a.ch ≠ b.ch := j8 hc
  refine ar fun K4 hK4 => ?_
  refine aw ?_
  first | refine aa rfl (br rfl rfl rfl) ?_ | refine aa rfl (cr rfl rfl) ?_
  try dsimp only [St.put]
  first | refine ae rfl (bh rfl rfl) ?_ | refine ae rfl (aq rfl rfl (Enc.len _)) ?_ | refine ae rfl (aq rfl rfl rfl) ?_ | refine ae rfl (bz rfl rfl zG trivial (by first | rfl | assumption)) ?_ | refine ae rfl (ca rfl rfl zG trivial (by rfl)) ?_ | refine ae rfl (cg rfl rfl zG trivial (by simp)) ?_ | refine ae rfl (ax rfl rfl zG trivial (ci (by assumption) rfl)) ?_ | refine ae rfl (ax rfl rfl zG trivial (by assumption)) ?_ | refine ae rfl (cj rfl rfl zG trivial rfl (by assumption) rfl (by decide)) ?_ | refine ae rfl (cd rfl rfl zG (by rfl)) ?_
  first | refine aa rfl (br rfl rfl rfl) ?_ | refine aa rfl (cr rfl rfl) ?_
  try dsimp only [St.put]
  first | refine ae rfl (bh rfl rfl) ?_ | refine ae rfl (aq rfl rfl (Enc.len _)) ?_ | refine ae rfl (aq rfl rfl rfl) ?_ | refine ae rfl (bz rfl rfl zG trivial (by first | rfl | assumption)) ?_ | refine ae rfl (ca rfl rfl zG trivial (by rfl)) ?_ | refine ae rfl (cg rfl rfl zG trivial (by simp)) ?_ | refine ae rfl (ax rfl rfl zG trivial (ci (by assumption) rfl)) ?_ | refine ae rfl (ax rfl rfl zG trivial (by assumption)) ?_ | refine ae rfl (cj rfl rfl zG trivial rfl (by assumption) rfl (by decide)) ?_ | refine ae rfl (cd rfl rfl zG (by rfl)) ?_
  refine aa rfl (c5 rfl rfl rfl) ?_
  refine aa rfl (bf rfl (by constructor)) ?_
  refine av ?_
  dsimp only [St.put]
  refine hK4 _ ?_
  refine bc ?_
  refine bx rfl (by constructor) zN zS ?_
  exact vb (by rw [decide_eq_decide, dl, dl, lt3]; omega)
 ·have h1 : a.ch = b.ch := iy hc
  refine bi ?_
  refine hK2 _ ?_
  refine ar fun K5 hK5 => ?_
  refine ar fun K6 hK6 => ?_
  refine aw ?_
  first | refine aa rfl (br rfl rfl rfl) ?_ | refine aa rfl (cr rfl rfl) ?_
  try dsimp only [St.put]
  first | refine ae rfl (bh rfl rfl) ?_ | refine ae rfl (aq rfl rfl (Enc.len _)) ?_ | refine ae rfl (aq rfl rfl rfl) ?_ | refine ae rfl (bz rfl rfl zG trivial (by first | rfl | assumption)) ?_ | refine ae rfl (ca rfl rfl zG trivial (by rfl)) ?_ | refine ae rfl (cg rfl rfl zG trivial (by simp)) ?_ | refine ae rfl (ax rfl rfl zG trivial (ci (by assumption) rfl)) ?_ | refine ae rfl (ax rfl rfl zG trivial (by assumption)) ?_ | refine ae rfl (cj rfl rfl zG trivial rfl (by assumption) rfl (by decide)) ?_ | refine ae rfl (cd rfl rfl zG (by rfl)) ?_
  first | refine aa rfl (br rfl rfl rfl) ?_ | refine aa rfl (cr rfl rfl) ?_
  try dsimp only [St.put]
  first | refine ae rfl (bh rfl rfl) ?_ | refine ae rfl (aq rfl rfl (Enc.len _)) ?_ | refine ae rfl (aq rfl rfl rfl) ?_ | refine ae rfl (bz rfl rfl zG trivial (by first | rfl | assumption)) ?_ | refine ae rfl (ca rfl rfl zG trivial (by rfl)) ?_ | refine ae rfl (cg rfl rfl zG trivial (by simp)) ?_ | refine ae rfl (ax rfl rfl zG trivial (ci (by assumption) rfl)) ?_ | refine ae rfl (ax rfl rfl zG trivial (by assumption)) ?_ | refine ae rfl (cj rfl rfl zG trivial rfl (by assumption) rfl (by decide)) ?_ | refine ae rfl (cd rfl rfl zG (by rfl)) ?_
  refine aa rfl (fq rfl rfl rfl) ?_
  refine av ?_
  dsimp only [St.put]
  refine hK6 _ ?_
  refine bd rfl (fun hc => ?_) (fun hc => ?_)
  ·have h2 : a.ln ≠ b.ln := j8 hc
   refine ar fun K7 hK7 => ?_
   refine aw ?_
   first | refine aa rfl (br rfl rfl rfl) ?_ | refine aa rfl (cr rfl rfl) ?_
   try dsimp only [St.put]
   first | refine ae rfl (bh rfl rfl) ?_ | refine ae rfl (aq rfl rfl (Enc.len _)) ?_ | refine ae rfl (aq rfl rfl rfl) ?_ | refine ae rfl (bz rfl rfl zG trivial (by first | rfl | assumption)) ?_ | refine ae rfl (ca rfl rfl zG trivial (by rfl)) ?_ | refine ae rfl (cg rfl rfl zG trivial (by simp)) ?_ | refine ae rfl (ax rfl rfl zG trivial (ci (by assumption) rfl)) ?_ | refine ae rfl (ax rfl rfl zG trivial (by assumption)) ?_ | refine ae rfl (cj rfl rfl zG trivial rfl (by assumption) rfl (by decide)) ?_ | refine ae rfl (cd rfl rfl zG (by rfl)) ?_
   first | refine aa rfl (br rfl rfl rfl) ?_ | refine aa rfl (cr rfl rfl) ?_
   try dsimp only [St.put]
   first | refine ae rfl (bh rfl rfl) ?_ | refine ae rfl (aq rfl rfl (Enc.len _)) ?_ | refine ae rfl (aq rfl rfl rfl) ?_ | refine ae rfl (bz rfl rfl zG trivial (by first | rfl | assumption)) ?_ | refine ae rfl (ca rfl rfl zG trivial (by rfl)) ?_ | refine ae rfl (cg rfl rfl zG trivial (by simp)) ?_ | refine ae rfl (ax rfl rfl zG trivial (ci (by assumption) rfl)) ?_ | refine ae rfl (ax rfl rfl zG trivial (by assumption)) ?_ | refine ae rfl (cj rfl rfl zG trivial rfl (by assumption) rfl (by decide)) ?_ | refine ae rfl (cd rfl rfl zG (by rfl)) ?_
   refine aa rfl (c5 rfl rfl rfl) ?_
   refine aa rfl (bf rfl (by constructor)) ?_
   refine av ?_
   dsimp only [St.put]
   refine hK7 _ ?_
   refine bc ?_
   refine bx rfl (by constructor) zN zS ?_
   exact vb (by rw [decide_eq_decide, dl, dl, lt3]; omega)
  ·have h2 : a.ln = b.ln := iy hc
   refine bi ?_
   refine hK5 _ ?_
   refine ar fun K8 hK8 => ?_
   refine aw ?_
   first | refine aa rfl (br rfl rfl rfl) ?_ | refine aa rfl (cr rfl rfl) ?_
   try dsimp only [St.put]
   first | refine ae rfl (bh rfl rfl) ?_ | refine ae rfl (aq rfl rfl (Enc.len _)) ?_ | refine ae rfl (aq rfl rfl rfl) ?_ | refine ae rfl (bz rfl rfl zG trivial (by first | rfl | assumption)) ?_ | refine ae rfl (ca rfl rfl zG trivial (by rfl)) ?_ | refine ae rfl (cg rfl rfl zG trivial (by simp)) ?_ | refine ae rfl (ax rfl rfl zG trivial (ci (by assumption) rfl)) ?_ | refine ae rfl (ax rfl rfl zG trivial (by assumption)) ?_ | refine ae rfl (cj rfl rfl zG trivial rfl (by assumption) rfl (by decide)) ?_ | refine ae rfl (cd rfl rfl zG (by rfl)) ?_
   first | refine aa rfl (br rfl rfl rfl) ?_ | refine aa rfl (cr rfl rfl) ?_
   try dsimp only [St.put]
   first | refine ae rfl (bh rfl rfl) ?_ | refine ae rfl (aq rfl rfl (Enc.len _)) ?_ | refine ae rfl (aq rfl rfl rfl) ?_ | refine ae rfl (bz rfl rfl zG trivial (by first | rfl | assumption)) ?_ | refine ae rfl (ca rfl rfl zG trivial (by rfl)) ?_ | refine ae rfl (cg rfl rfl zG trivial (by simp)) ?_ | refine ae rfl (ax rfl rfl zG trivial (ci (by assumption) rfl)) ?_ | refine ae rfl (ax rfl rfl zG trivial (by assumption)) ?_ | refine ae rfl (cj rfl rfl zG trivial rfl (by assumption) rfl (by decide)) ?_ | refine ae rfl (cd rfl rfl zG (by rfl)) ?_
   refine aa rfl (c5 rfl rfl rfl) ?_
   refine aa rfl (bf rfl (by constructor)) ?_
   refine av ?_
   dsimp only [St.put]
   refine hK8 _ ?_
   refine bc ?_
   refine bx rfl (by constructor) zN zS ?_
   exact vb (by rw [decide_eq_decide, dl, dl, lt3]; omega)
end Go.Proofs.YtgffhbbcpgdjjaaGreatDoor
namespace Go.Proofs.YtgffhbbcpgdjjaaGreatDoor
set_option maxRecDepth 10000
open Go.RowKit Go.AB
open Go.AB.Enc (cells)
open Go.PB (bg aj PlaceD bn bq bp ck az ak dc ce dr dv)
set_option maxHeartbeats 1000000 in
theorem uct (t : aj) (x : az) (r : Int) (l : List PlaceD) (ht : c7 t = true) : Pure Tryz.prog 80 [gp t, val x, .v (.int .i64 r), lst l] (.v (.bool (io t x r l))) := by
 refine di Tryz.func80 rfl (fun m => .v) fun G nx => ?_
 simp only [Tryz.ntmps80, List.length_cons, List.length_nil, Nat.reduceAdd, Nat.reduceSub]
 refine cp fun hlt => ?_
 dsimp only at hlt
 refine lf 3 (fun hfl => ?_)
 have hl0 := (fit_lst.1 hfl).1
 refine yS fun _ K1 => ?_
 refine yR ?_
 try dsimp only [St.put]
 refine yB rfl rfl rfl ?_
 try dsimp only [St.put]
 refine yB rfl rfl rfl ?_
 refine yA rfl rfl ?_
 refine yN ?_
 dsimp only [St.put]
 refine K1 _ ?_
 refine yS fun _ K2 => ?_
 refine yS fun _ K3 => ?_
 refine yR ?_
 refine yM rfl rfl ?_
 refine aa rfl (c5 rfl rfl rfl) ?_
 refine er (fun hs => ?_) (fun hs => ?_)
 ·have s1 : r < 0 := of_decide_eq_true hs
  refine yM rfl rfl ?_
  refine yM rfl rfl ?_
  refine aa rfl (bj rfl rfl (List.length_map _)) ?_
  refine aa rfl (im rfl rfl rfl) ?_
  refine aa rfl (cn rfl rfl (by constructor)) ?_
  refine yN ?_
  dsimp only [St.put]
  refine K3 _ ?_
  refine bd rfl (fun hc => ?_) (fun hc => ?_)
  ·have s2 : 0 < l.length := by
    have := of_decide_eq_true hc
    omega
   refine yS fun _ K4 => ?_
   refine yR ?_
   refine yA rfl rfl ?_
   refine yN ?_
   dsimp only [St.put]
   refine K4 _ ?_
   refine bc ?_
   refine bx rfl (by constructor) zN zS ?_
   exact vb (by
    have e1 : ¬ 0 ≤ r := by omega
    have e2 : l ≠ [] := fun e => by rw [e] at s2; exact absurd s2 (by simp)
    simp [io, e1, e2])
  have s3 : (decide (0 ≤ r) || decide (l = [])) = true := by
   first
   | (rw [decide_eq_true (show 0 ≤ r by omega)]; rfl)
   | (have := of_decide_eq_false hc
      have : l = [] := List.eq_nil_of_length_eq_zero (by omega)
      simp [this])
  refine bi ?_
  refine K2 _ ?_
  refine yS fun _ K5 => ?_
  refine yS fun _ K6 => ?_
  refine yR ?_
  refine yA rfl rfl ?_
  refine yN ?_
  dsimp only [St.put]
  refine K6 _ ?_
  refine cb ?_
  refine dh 10 ?_
  refine zQ ?_
  refine du (G) zX ?_
  dsimp only
  refine dz (X := Nat) (fun i => i ≤ l.length ∧ d7 t x l i = true) (fun i => l.length - i) (fun i => [(9, .v (.int .i64 (i : Int)))]) (fun i G' => G') 0 rfl ?_ ?_ (fun _ _ h => h) ?_ ?_ ?_
  ·exact ⟨Nat.zero_le _, rfl⟩
  ·exact zF
  ·rintro i hI
   exact zL
  ·exact fun _ _ _ _ h => .inl h
  rintro i hI
  dsimp only at hI ⊢
  refine yS fun _ K7 => ?_
  refine yS fun _ K8 => ?_
  refine yR ?_
  refine yM rfl rfl ?_
  refine yM rfl rfl ?_
  refine aa rfl (bj rfl rfl (List.length_map _)) ?_
  refine aa rfl (c5 rfl rfl rfl) ?_
  refine yN ?_
  dsimp only [St.put]
  refine K8 _ ?_
  refine bd rfl (fun hc => ?_) (fun hc => ?_)
  ·replace hc := of_decide_eq_true hc
   obtain ⟨q, hq⟩ : ∃ q, l[i]? = some q := d8 (by omega)
   refine bi ?_
   refine K7 _ ?_
   refine yS fun _ K9 => ?_
   refine cb ?_
   refine dh 10 ?_
   refine zQ ?_
   refine l5 (X := Bool) (fun d => jo t x l i = !d) (fun d => [(60, .v (.bool d))]) (fun d G' => G') rfl ?_ (fun _ _ _ _ h => .inl h) ?_ ?_
   ·rintro d hI
    exact zL
   ·refine sk [(0, none), (1, none), (2, none), (3, none), (4, none)] (fun _ => false) (fun i => [1, 2, 3].contains i) 33 (rl [5, 33]) (by kernel_rfl) (by kernel_rfl) ?_
    try dsimp only [St.put]
    refine ai rfl rfl rfl rfl (aq rfl rfl rfl) ?_
    refine xM rfl rfl rfl rfl rfl ?_
    refine xM rfl rfl rfl rfl rfl ?_
    try dsimp only [St.put]
    refine ah rfl rfl rfl rfl (bk rfl rfl rfl rfl (bu (by assumption)) (Enc.len _)) ?_
    try dsimp only [St.put]
    refine ai rfl rfl rfl rfl (aq rfl rfl (Enc.len _)) ?_
    refine cz ?_
    refine eg [5] (by kernel_rfl) (by simp) ?_
    refine ef ?_ ?_
    ·try dsimp only [St.put]
     refine i7 rfl rfl rfl (bl rfl rfl rfl (ubh t q ht) ?_)
     refine fb [(6, none), (7, none), (8, none), (9, none), (10, none), (11, none), (12, none), (14, none), (15, none), (16, none), (17, none)] (fun i => [6, 7, 9, 10, 11, 14, 16].contains i) 21 (rl [13, 1, 4, 20]) (by kernel_rfl) ?_
     refine ah rfl rfl rfl rfl (ei rfl rfl) ?_
     refine j5 (fun hs => ?_) (fun hs => ?_)
     ·have s4 := hs
      refine xM rfl rfl rfl rfl rfl ?_
      refine am rfl rfl rfl ?_
      refine am rfl rfl rfl ?_
      refine am rfl rfl rfl ?_
      refine am rfl rfl rfl ?_
      refine am rfl rfl rfl ?_
      refine am rfl rfl rfl ?_
      refine am rfl rfl rfl ?_
      refine am rfl rfl rfl ?_
      refine am rfl rfl rfl ?_
      refine cz ?_
      refine eg [13] (by kernel_rfl) (by simp) ?_
      refine ef ?_ ?_
      ·refine gm rfl rfl rfl ?_
       refine eg [18] (by kernel_rfl) (by simp) ?_
       refine ef ?_ ?_
       ·refine gm rfl rfl rfl ?_
        refine fb [(19, none), (20, none), (21, none), (22, none), (23, none), (24, none), (25, none), (26, none), (27, none), (28, none), (29, none), (30, none), (31, none), (32, none), (33, none)] (fun i => [19, 20, 21, 22, 23, 24, 25, 26, 27, 28, 30, 31, 32].contains i) 4 (rl [34, 4]) (by kernel_rfl) ?_
        refine am rfl rfl rfl ?_
        refine ah rfl rfl rfl rfl (cn rfl rfl (by constructor)) ?_
        refine xM rfl rfl rfl rfl rfl ?_
        refine am rfl rfl rfl ?_
        refine am rfl rfl rfl ?_
        refine am rfl rfl rfl ?_
        refine am rfl rfl rfl ?_
        refine am rfl rfl rfl ?_
        refine am rfl rfl rfl ?_
        refine am rfl rfl rfl ?_
        refine am rfl rfl rfl ?_
        refine am rfl rfl rfl ?_
        refine am rfl rfl rfl ?_
        refine am rfl rfl rfl ?_
        refine am rfl rfl rfl ?_
        refine cz ?_
        refine eg [34] (by kernel_rfl) (by simp) ?_
        refine ef ?_ ?_
        ·refine gm rfl rfl rfl ?_
         refine fb [(35, none), (36, none), (37, none)] (fun i => [35, 36, 37].contains i) 0 (rl [38]) (by kernel_rfl) ?_
         refine am rfl rfl rfl ?_
         refine am rfl rfl rfl ?_
         refine ah rfl rfl rfl rfl (cn rfl rfl (by constructor)) ?_
         refine cz ?_
         dsimp only [St.put]
         refine i3 (by kernel_rfl) ?_
         refine ⟨_, ?_, ⟨⟨rfl, rfl⟩, zF, zB, zN, zX⟩⟩
         simp_all [jo, em, m5]
         try (intro h0; omega)
        exact ed
       exact ed
      exact ed
     have hqp : f5 t q = true := by simpa using hs
     refine xM rfl rfl rfl rfl rfl ?_
     try dsimp only [St.put]
     refine ai rfl rfl rfl rfl (aq rfl rfl rfl) ?_
     refine xM rfl rfl rfl rfl rfl ?_
     refine xM rfl rfl rfl rfl rfl ?_
     try dsimp only [St.put]
     refine ah rfl rfl rfl rfl (bk rfl rfl rfl rfl (bu (by assumption)) (Enc.len _)) ?_
     try dsimp only [St.put]
     refine ai rfl rfl rfl rfl (aq rfl rfl (Enc.len _)) ?_
     refine ah rfl rfl rfl rfl (br rfl rfl rfl) ?_
     try dsimp only [St.put]
     refine ai rfl rfl rfl rfl (bh rfl rfl) ?_
     refine ah rfl rfl rfl rfl (br rfl rfl rfl) ?_
     try dsimp only [St.put]
     refine ai rfl rfl rfl rfl (bh rfl rfl) ?_
     refine cz ?_
     refine eg [13] (by kernel_rfl) (by simp) ?_
     refine ef ?_ ?_
     ·try dsimp only [St.put]
      refine i7 rfl rfl rfl (bl rfl rfl rfl (zh t q ht hqp) ?_)
      refine eg [18] (by kernel_rfl) (by simp) ?_
      refine ef ?_ ?_
      ·try dsimp only [St.put]
       refine i7 rfl rfl rfl (bl rfl rfl rfl (rn _ _ _) ?_)
       refine fb [(19, none), (20, none), (21, none), (22, none), (23, none), (24, none), (25, none), (26, none), (27, none), (28, none), (29, none), (30, none), (31, none), (32, none), (33, none)] (fun i => [19, 20, 21, 22, 23, 24, 25, 26, 27, 28, 30, 31, 32].contains i) 4 (rl [34, 4]) (by kernel_rfl) ?_
       refine ah rfl rfl rfl rfl (ei rfl rfl) ?_
       refine j5 (fun hs => ?_) (fun hs => ?_)
       ·have s5 := hs
        refine ah rfl rfl rfl rfl (cv rfl rfl (by constructor)) ?_
        refine xM rfl rfl rfl rfl rfl ?_
        refine am rfl rfl rfl ?_
        refine am rfl rfl rfl ?_
        refine am rfl rfl rfl ?_
        refine am rfl rfl rfl ?_
        refine am rfl rfl rfl ?_
        refine am rfl rfl rfl ?_
        refine am rfl rfl rfl ?_
        refine am rfl rfl rfl ?_
        refine am rfl rfl rfl ?_
        refine am rfl rfl rfl ?_
        refine am rfl rfl rfl ?_
        refine am rfl rfl rfl ?_
        refine cz ?_
        refine eg [34] (by kernel_rfl) (by simp) ?_
        refine ef ?_ ?_
        ·refine gm rfl rfl rfl ?_
         refine fb [(35, none), (36, none), (37, none)] (fun i => [35, 36, 37].contains i) 0 (rl [38]) (by kernel_rfl) ?_
         refine am rfl rfl rfl ?_
         refine am rfl rfl rfl ?_
         refine ah rfl rfl rfl rfl (cn rfl rfl (by constructor)) ?_
         refine cz ?_
         dsimp only [St.put]
         refine i3 (by kernel_rfl) ?_
         refine ⟨_, ?_, ⟨⟨rfl, rfl⟩, zF, zB, zN, zX⟩⟩
         simp_all [jo, em, m5]
         try (intro h0; omega)
        exact ed
       have s5 := hs
       refine ah rfl rfl rfl rfl (cv rfl rfl (by constructor)) ?_
       refine xM rfl rfl rfl rfl rfl ?_
       refine xM rfl rfl rfl rfl rfl ?_
       refine ah rfl rfl rfl rfl (im rfl rfl rfl) ?_
       refine j5 (fun hs => ?_) (fun hs => ?_)
       ·have s6 : 0 < i := by
         have := of_decide_eq_true hs
         omega
        obtain ⟨q0, hq0⟩ : ∃ q0, l[i - 1]? = some q0 := d8 (by omega)
        refine xM rfl rfl rfl rfl rfl ?_
        refine xM rfl rfl rfl rfl rfl ?_
        refine xM rfl rfl rfl rfl rfl ?_
        refine ah rfl rfl rfl rfl (ir rfl rfl rfl (by omega)) ?_
        try dsimp only [St.put]
        refine ah rfl rfl rfl rfl (bk (k := i - 1) rfl rfl rfl (by omega) (bu hq0) (Enc.len _)) ?_
        try dsimp only [St.put]
        refine ai rfl rfl rfl rfl (aq rfl rfl (Enc.len _)) ?_
        refine xM rfl rfl rfl rfl rfl ?_
        refine xM rfl rfl rfl rfl rfl ?_
        try dsimp only [St.put]
        refine ah rfl rfl rfl rfl (bk rfl rfl rfl rfl (bu (by assumption)) (Enc.len _)) ?_
        try dsimp only [St.put]
        refine ai rfl rfl rfl rfl (aq rfl rfl (Enc.len _)) ?_
        refine cz ?_
        refine eg [34] (by kernel_rfl) (by simp) ?_
        refine ef ?_ ?_
        ·try dsimp only [St.put]
         refine i7 rfl rfl rfl (bl rfl rfl rfl (uha q0 q) ?_)
         refine fb [(35, none), (36, none), (37, none)] (fun i => [35, 36, 37].contains i) 0 (rl [38]) (by kernel_rfl) ?_
         refine ah rfl rfl rfl rfl (ei rfl rfl) ?_
         refine ah rfl rfl rfl rfl (cn rfl rfl (by constructor)) ?_
         refine ah rfl rfl rfl rfl (cv rfl rfl (by constructor)) ?_
         refine cz ?_
         dsimp only [St.put]
         refine i3 (by kernel_rfl) ?_
         refine ⟨_, ?_, ⟨⟨rfl, rfl⟩, zF, zB, zN, zX⟩⟩
         simp_all [jo, em, m5]
         try (intro h0; omega)
        exact ed
       have s6 : i = 0 := by
        have := of_decide_eq_false hs
        omega
       refine xM rfl rfl rfl rfl rfl ?_
       refine am rfl rfl rfl ?_
       refine am rfl rfl rfl ?_
       refine am rfl rfl rfl ?_
       refine am rfl rfl rfl ?_
       refine am rfl rfl rfl ?_
       refine am rfl rfl rfl ?_
       refine am rfl rfl rfl ?_
       refine am rfl rfl rfl ?_
       refine am rfl rfl rfl ?_
       refine cz ?_
       refine eg [34] (by kernel_rfl) (by simp) ?_
       refine ef ?_ ?_
       ·refine gm rfl rfl rfl ?_
        refine fb [(35, none), (36, none), (37, none)] (fun i => [35, 36, 37].contains i) 0 (rl [38]) (by kernel_rfl) ?_
        refine am rfl rfl rfl ?_
        refine ah rfl rfl rfl rfl (cv rfl rfl (by constructor)) ?_
        refine ah rfl rfl rfl rfl (cv rfl rfl (by constructor)) ?_
        refine cz ?_
        dsimp only [St.put]
        refine i3 (by kernel_rfl) ?_
        refine ⟨_, ?_, ⟨⟨rfl, rfl⟩, zF, zB, zN, zX⟩⟩
        simp_all [jo, em, m5]
        try (intro h0; omega)
       exact ed
      exact ed
     exact ed
    exact ed
   rintro d hst
   dsimp only at hst ⊢
   refine bd rfl (fun hc => ?_) (fun hc => ?_)
   ·skip
    refine yS fun _ K11 => ?_
    refine yR ?_
    refine yA rfl rfl ?_
    refine yN ?_
    dsimp only [St.put]
    refine K11 _ ?_
    refine bc ?_
    refine bx rfl (by constructor) zN zS ?_
    exact vb (by
     have e : jo t x l i = false := by rw [hst, hc]; rfl
     have : d7 t x l l.length = false := by
      refine List.all_eq_false.2 ⟨i, List.mem_range.2 (by omega), by rw [e]; simp⟩
     simp [io, this])
   skip
   refine bi ?_
   refine K9 _ ?_
   refine yR ?_
   refine yM rfl rfl ?_
   refine aa rfl (cm rfl rfl rfl (by omega)) ?_
   refine yA rfl rfl ?_
   refine yN ?_
   dsimp only [St.put]
   exact ⟨i + 1, by omega, ⟨by omega, by rw [ig, hI.2, hst, hc]; rfl⟩, ⟨⟨rfl, rfl⟩, zF, zB, zN, zX⟩⟩
  replace hc := of_decide_eq_false hc
  obtain rfl : i = l.length := by omega
  refine dq ?_
  refine K5 _ ?_
  refine yS fun _ K12 => ?_
  refine yR ?_
  refine yA rfl rfl ?_
  refine yN ?_
  dsimp only [St.put]
  refine K12 _ ?_
  refine bc ?_
  refine bx rfl (by constructor) zN zS ?_
  exact vb (by
   unfold io
   rw [hI.2, Bool.and_true]
   first
   | exact s3.symm
   | (have e1 : 0 ≤ r := by omega
      simp [e1]))
 have s1 : ¬ r < 0 := of_decide_eq_false hs
 refine yM rfl rfl ?_
 refine yK rfl ?_
 refine yK rfl ?_
 refine yK rfl ?_
 refine aa rfl (cv rfl rfl (by constructor)) ?_
 refine yN ?_
 dsimp only [St.put]
 refine K3 _ ?_
 refine bd rfl (fun h => by cases h) (fun _ => ?_)
 have s3 : (decide (0 ≤ r) || decide (l = [])) = true := by
  first
  | (rw [decide_eq_true (show 0 ≤ r by omega)]; rfl)
  | (have := of_decide_eq_false hc
     have : l = [] := List.eq_nil_of_length_eq_zero (by omega)
     simp [this])
 refine bi ?_
 refine K2 _ ?_
 refine yS fun _ K13 => ?_
 refine yS fun _ K14 => ?_
 refine yR ?_
 refine yA rfl rfl ?_
 refine yN ?_
 dsimp only [St.put]
 refine K14 _ ?_
 refine cb ?_
 refine dh 10 ?_
 refine zQ ?_
 refine du (G) zX ?_
 dsimp only
 refine dz (X := Nat) (fun i => i ≤ l.length ∧ d7 t x l i = true) (fun i => l.length - i) (fun i => [(9, .v (.int .i64 (i : Int)))]) (fun i G' => G') 0 rfl ?_ ?_ (fun _ _ h => h) ?_ ?_ ?_
 ·exact ⟨Nat.zero_le _, rfl⟩
 ·exact zF
 ·rintro i hI
  exact zL
 ·exact fun _ _ _ _ h => .inl h
 rintro i hI
 dsimp only at hI ⊢
 refine yS fun _ K15 => ?_
 refine yS fun _ K16 => ?_
 refine yR ?_
 refine yM rfl rfl ?_
 refine yM rfl rfl ?_
 refine aa rfl (bj rfl rfl (List.length_map _)) ?_
 refine aa rfl (c5 rfl rfl rfl) ?_
 refine yN ?_
 dsimp only [St.put]
 refine K16 _ ?_
 refine bd rfl (fun hc => ?_) (fun hc => ?_)
 ·replace hc := of_decide_eq_true hc
  obtain ⟨q, hq⟩ : ∃ q, l[i]? = some q := d8 (by omega)
  refine bi ?_
  refine K15 _ ?_
  refine yS fun _ K17 => ?_
  refine cb ?_
  refine dh 10 ?_
  refine zQ ?_
  refine l5 (X := Bool) (fun d => jo t x l i = !d) (fun d => [(60, .v (.bool d))]) (fun d G' => G') rfl ?_ (fun _ _ _ _ h => .inl h) ?_ ?_
  ·rintro d hI
   exact zL
  ·refine sk [(0, none), (1, none), (2, none), (3, none), (4, none)] (fun _ => false) (fun i => [1, 2, 3].contains i) 33 (rl [5, 33]) (by kernel_rfl) (by kernel_rfl) ?_
   try dsimp only [St.put]
   refine ai rfl rfl rfl rfl (aq rfl rfl rfl) ?_
   refine xM rfl rfl rfl rfl rfl ?_
   refine xM rfl rfl rfl rfl rfl ?_
   try dsimp only [St.put]
   refine ah rfl rfl rfl rfl (bk rfl rfl rfl rfl (bu (by assumption)) (Enc.len _)) ?_
   try dsimp only [St.put]
   refine ai rfl rfl rfl rfl (aq rfl rfl (Enc.len _)) ?_
   refine cz ?_
   refine eg [5] (by kernel_rfl) (by simp) ?_
   refine ef ?_ ?_
   ·try dsimp only [St.put]
    refine i7 rfl rfl rfl (bl rfl rfl rfl (ubh t q ht) ?_)
    refine fb [(6, none), (7, none), (8, none), (9, none), (10, none), (11, none), (12, none), (14, none), (15, none), (16, none), (17, none)] (fun i => [6, 7, 9, 10, 11, 14, 16].contains i) 21 (rl [13, 1, 4, 20]) (by kernel_rfl) ?_
    refine ah rfl rfl rfl rfl (ei rfl rfl) ?_
    refine j5 (fun hs => ?_) (fun hs => ?_)
    ·have s4 := hs
     refine xM rfl rfl rfl rfl rfl ?_
     refine am rfl rfl rfl ?_
     refine am rfl rfl rfl ?_
     refine am rfl rfl rfl ?_
     refine am rfl rfl rfl ?_
     refine am rfl rfl rfl ?_
     refine am rfl rfl rfl ?_
     refine am rfl rfl rfl ?_
     refine am rfl rfl rfl ?_
     refine am rfl rfl rfl ?_
     refine cz ?_
     refine eg [13] (by kernel_rfl) (by simp) ?_
     refine ef ?_ ?_
     ·refine gm rfl rfl rfl ?_
      refine eg [18] (by kernel_rfl) (by simp) ?_
      refine ef ?_ ?_
      ·refine gm rfl rfl rfl ?_
       refine fb [(19, none), (20, none), (21, none), (22, none), (23, none), (24, none), (25, none), (26, none), (27, none), (28, none), (29, none), (30, none), (31, none), (32, none), (33, none)] (fun i => [19, 20, 21, 22, 23, 24, 25, 26, 27, 28, 30, 31, 32].contains i) 4 (rl [34, 4]) (by kernel_rfl) ?_
       refine am rfl rfl rfl ?_
       refine ah rfl rfl rfl rfl (cn rfl rfl (by constructor)) ?_
       refine xM rfl rfl rfl rfl rfl ?_
       refine am rfl rfl rfl ?_
       refine am rfl rfl rfl ?_
       refine am rfl rfl rfl ?_
       refine am rfl rfl rfl ?_
       refine am rfl rfl rfl ?_
       refine am rfl rfl rfl ?_
       refine am rfl rfl rfl ?_
       refine am rfl rfl rfl ?_
       refine am rfl rfl rfl ?_
       refine am rfl rfl rfl ?_
       refine am rfl rfl rfl ?_
       refine am rfl rfl rfl ?_
       refine cz ?_
       refine eg [34] (by kernel_rfl) (by simp) ?_
       refine ef ?_ ?_
       ·refine gm rfl rfl rfl ?_
        refine fb [(35, none), (36, none), (37, none)] (fun i => [35, 36, 37].contains i) 0 (rl [38]) (by kernel_rfl) ?_
        refine am rfl rfl rfl ?_
        refine am rfl rfl rfl ?_
        refine ah rfl rfl rfl rfl (cn rfl rfl (by constructor)) ?_
        refine cz ?_
        dsimp only [St.put]
        refine i3 (by kernel_rfl) ?_
        refine ⟨_, ?_, ⟨⟨rfl, rfl⟩, zF, zB, zN, zX⟩⟩
        simp_all [jo, em, m5]
        try (intro h0; omega)
       exact ed
      exact ed
     exact ed
    have hqp : f5 t q = true := by simpa using hs
    refine xM rfl rfl rfl rfl rfl ?_
    try dsimp only [St.put]
    refine ai rfl rfl rfl rfl (aq rfl rfl rfl) ?_
    refine xM rfl rfl rfl rfl rfl ?_
    refine xM rfl rfl rfl rfl rfl ?_
    try dsimp only [St.put]
    refine ah rfl rfl rfl rfl (bk rfl rfl rfl rfl (bu (by assumption)) (Enc.len _)) ?_
    try dsimp only [St.put]
    refine ai rfl rfl rfl rfl (aq rfl rfl (Enc.len _)) ?_
    refine ah rfl rfl rfl rfl (br rfl rfl rfl) ?_
    try dsimp only [St.put]
    refine ai rfl rfl rfl rfl (bh rfl rfl) ?_
    refine ah rfl rfl rfl rfl (br rfl rfl rfl) ?_
    try dsimp only [St.put]
    refine ai rfl rfl rfl rfl (bh rfl rfl) ?_
    refine cz ?_
    refine eg [13] (by kernel_rfl) (by simp) ?_
    refine ef ?_ ?_
    ·try dsimp only [St.put]
     refine i7 rfl rfl rfl (bl rfl rfl rfl (zh t q ht hqp) ?_)
     refine eg [18] (by kernel_rfl) (by simp) ?_
     refine ef ?_ ?_
     ·try dsimp only [St.put]
      refine i7 rfl rfl rfl (bl rfl rfl rfl (rn _ _ _) ?_)
      refine fb [(19, none), (20, none), (21, none), (22, none), (23, none), (24, none), (25, none), (26, none), (27, none), (28, none), (29, none), (30, none), (31, none), (32, none), (33, none)] (fun i => [19, 20, 21, 22, 23, 24, 25, 26, 27, 28, 30, 31, 32].contains i) 4 (rl [34, 4]) (by kernel_rfl) ?_
      refine ah rfl rfl rfl rfl (ei rfl rfl) ?_
      refine j5 (fun hs => ?_) (fun hs => ?_)
      ·have s5 := hs
       refine ah rfl rfl rfl rfl (cv rfl rfl (by constructor)) ?_
       refine xM rfl rfl rfl rfl rfl ?_
       refine am rfl rfl rfl ?_
       refine am rfl rfl rfl ?_
       refine am rfl rfl rfl ?_
       refine am rfl rfl rfl ?_
       refine am rfl rfl rfl ?_
       refine am rfl rfl rfl ?_
       refine am rfl rfl rfl ?_
       refine am rfl rfl rfl ?_
       refine am rfl rfl rfl ?_
       refine am rfl rfl rfl ?_
       refine am rfl rfl rfl ?_
       refine am rfl rfl rfl ?_
       refine cz ?_
       refine eg [34] (by kernel_rfl) (by simp) ?_
       refine ef ?_ ?_
       ·refine gm rfl rfl rfl ?_
        refine fb [(35, none), (36, none), (37, none)] (fun i => [35, 36, 37].contains i) 0 (rl [38]) (by kernel_rfl) ?_
        refine am rfl rfl rfl ?_
        refine am rfl rfl rfl ?_
        refine ah rfl rfl rfl rfl (cn rfl rfl (by constructor)) ?_
        refine cz ?_
        dsimp only [St.put]
        refine i3 (by kernel_rfl) ?_
        refine ⟨_, ?_, ⟨⟨rfl, rfl⟩, zF, zB, zN, zX⟩⟩
        simp_all [jo, em, m5]
        try (intro h0; omega)
       exact ed
      have s5 := hs
      refine ah rfl rfl rfl rfl (cv rfl rfl (by constructor)) ?_
      refine xM rfl rfl rfl rfl rfl ?_
      refine xM rfl rfl rfl rfl rfl ?_
      refine ah rfl rfl rfl rfl (im rfl rfl rfl) ?_
      refine j5 (fun hs => ?_) (fun hs => ?_)
      ·have s6 : 0 < i := by
        have := of_decide_eq_true hs
        omega
       obtain ⟨q0, hq0⟩ : ∃ q0, l[i - 1]? = some q0 := d8 (by omega)
       refine xM rfl rfl rfl rfl rfl ?_
       refine xM rfl rfl rfl rfl rfl ?_
       refine xM rfl rfl rfl rfl rfl ?_
       refine ah rfl rfl rfl rfl (ir rfl rfl rfl (by omega)) ?_
       try dsimp only [St.put]
       refine ah rfl rfl rfl rfl (bk (k := i - 1) rfl rfl rfl (by omega) (bu hq0) (Enc.len _)) ?_
       try dsimp only [St.put]
       refine ai rfl rfl rfl rfl (aq rfl rfl (Enc.len _)) ?_
       refine xM rfl rfl rfl rfl rfl ?_
       refine xM rfl rfl rfl rfl rfl ?_
       try dsimp only [St.put]
       refine ah rfl rfl rfl rfl (bk rfl rfl rfl rfl (bu (by assumption)) (Enc.len _)) ?_
       try dsimp only [St.put]
       refine ai rfl rfl rfl rfl (aq rfl rfl (Enc.len _)) ?_
       refine cz ?_
       refine eg [34] (by kernel_rfl) (by simp) ?_
       refine ef ?_ ?_
       ·try dsimp only [St.put]
        refine i7 rfl rfl rfl (bl rfl rfl rfl (uha q0 q) ?_)
        refine fb [(35, none), (36, none), (37, none)] (fun i => [35, 36, 37].contains i) 0 (rl [38]) (by kernel_rfl) ?_
        refine ah rfl rfl rfl rfl (ei rfl rfl) ?_
        refine ah rfl rfl rfl rfl (cn rfl rfl (by constructor)) ?_
        refine ah rfl rfl rfl rfl (cv rfl rfl (by constructor)) ?_
        refine cz ?_
        dsimp only [St.put]
        refine i3 (by kernel_rfl) ?_
        refine ⟨_, ?_, ⟨⟨rfl, rfl⟩, zF, zB, zN, zX⟩⟩
        simp_all [jo, em, m5]
        try (intro h0; omega)
       exact ed
      have s6 : i = 0 := by
       have := of_decide_eq_false hs
       omega
      refine xM rfl rfl rfl rfl rfl ?_
      refine am rfl rfl rfl ?_
      refine am rfl rfl rfl ?_
      refine am rfl rfl rfl ?_
      refine am rfl rfl rfl ?_
      refine am rfl rfl rfl ?_
      refine am rfl rfl rfl ?_
      refine am rfl rfl rfl ?_
      refine am rfl rfl rfl ?_
      refine am rfl rfl rfl ?_
      refine cz ?_
      refine eg [34] (by kernel_rfl) (by simp) ?_
      refine ef ?_ ?_
      ·refine gm rfl rfl rfl ?_
       refine fb [(35, none), (36, none), (37, none)] (fun i => [35, 36, 37].contains i) 0 (rl [38]) (by kernel_rfl) ?_
       refine am rfl rfl rfl ?_
       refine ah rfl rfl rfl rfl (cv rfl rfl (by constructor)) ?_
       refine ah rfl rfl rfl rfl (cv rfl rfl (by constructor)) ?_
       refine cz ?_
       dsimp only [St.put]
       refine i3 (by kernel_rfl) ?_
       refine ⟨_, ?_, ⟨⟨rfl, rfl⟩, zF, zB, zN, zX⟩⟩
       simp_all [jo, em, m5]
       try (intro h0; omega)
      exact ed
     exact ed
    exact ed
   exact ed
  rintro d hst
  dsimp only at hst ⊢
  refine bd rfl (fun hc => ?_) (fun hc => ?_)
  ·skip
   refine yS fun _ K19 => ?_
   refine yR ?_
   refine yA rfl rfl ?_
   refine yN ?_
   dsimp only [St.put]
   refine K19 _ ?_
   refine bc ?_
   refine bx rfl (by constructor) zN zS ?_
   exact vb (by
    have e : jo t x l i = false := by rw [hst, hc]; rfl
    have : d7 t x l l.length = false := by
     refine List.all_eq_false.2 ⟨i, List.mem_range.2 (by omega), by rw [e]; simp⟩
    simp [io, this])
  skip
  refine bi ?_
  refine K17 _ ?_
  refine yR ?_
  refine yM rfl rfl ?_
  refine aa rfl (cm rfl rfl rfl (by omega)) ?_
  refine yA rfl rfl ?_
  refine yN ?_
  dsimp only [St.put]
  exact ⟨i + 1, by omega, ⟨by omega, by rw [ig, hI.2, hst, hc]; rfl⟩, ⟨⟨rfl, rfl⟩, zF, zB, zN, zX⟩⟩
 replace hc := of_decide_eq_false hc
 obtain rfl : i = l.length := by omega
 refine dq ?_
 refine K13 _ ?_
 refine yS fun _ K20 => ?_
 refine yR ?_
 refine yA rfl rfl ?_
 refine yN ?_
 dsimp only [St.put]
 refine K20 _ ?_
 refine bc ?_
 refine bx rfl (by constructor) zN zS ?_
 exact vb (by
  unfold io
  rw [hI.2, Bool.and_true]
  first
  | exact s3.symm
  | (have e1 : 0 ≤ r := by omega
     simp [e1]))
end Go.Proofs.YtgffhbbcpgdjjaaGreatDoor
namespace Go.AB
open Go Go.RowKit
open Go.AB.Enc (cells)
open Go.PB (bg aj PlaceD bn bq bp ck az ak dc ce dr dv)
def mp (p : ak) (last : Int) (x : az) : Bool := decide (last < x.fr) && decide (x.fr ≤ x.to) && decide (x.to < (mn p.text : Int)) && inB x.fst (-1) ((p.firsts.length : Int) - 1) && inB x.snd (-1) ((p.seconds.length : Int) - 1)
theorem wt (p : ak) (last : Int) (x : az) : l8 p last x = (mp p last x && (io p.text x x.fst x.found && io p.text x x.snd x.well)) := by
 unfold l8 mp
 cases decide (last < x.fr) <;> cases decide (x.fr ≤ x.to) <;> cases decide (x.to < (mn p.text : Int)) <;> cases inB x.fst (-1) ((p.firsts.length : Int) - 1) <;> cases inB x.snd (-1) ((p.seconds.length : Int) - 1) <;> simp
theorem zk {p : ak} {j : Nat} {x : az} (h : p.pages[j]? = some x) : tz p j = l8 p (iu p.pages j) x := by unfold tz; rw [h]
theorem uek {l : List az} {j : Nat} {x : az} (h : l[j]? = some x) : iu l (j + 1) = x.to := by simp only [iu, h]
theorem wo {p : ak} {j : Nat} {x : az} (h : p.pages[j]? = some x) (hb : l8 p (iu p.pages j) x = false) : gk p = false := by
 have : ql p p.pages.length = false := List.all_eq_false.2 ⟨j, List.mem_range.2 (List.getElem?_eq_some_iff.1 h).1, by rw [zk h, hb]; simp⟩
 simp [gk, this]
end Go.AB
namespace Go.Proofs.YtgffhbbcpgdjjaaGreatDoor
set_option maxRecDepth 10000
open Go.RowKit Go.AB
open Go.AB.Enc (cells)
open Go.PB (bg aj PlaceD bn bq bp ck az ak dc ce dr dv)
set_option maxHeartbeats 2000000 in
theorem uj6 (p : ak) (ht : c7 p.text = true) : Pure Tryz.prog 61 [val p] (.v (.bool (gk p))) := by
 refine di Tryz.func61 rfl (fun m => .v) fun G nx => ?_
 simp only [Tryz.ntmps61, List.length_cons, List.length_nil, Nat.reduceAdd, Nat.reduceSub]
 refine cp fun hlt => ?_
 dsimp only at hlt
 refine yS fun _ K1 => ?_
 refine yR ?_
 try dsimp only [St.put]
 refine yB rfl rfl rfl ?_
 refine yA rfl rfl ?_
 refine yN ?_
 dsimp only [St.put]
 refine K1 _ ?_
 refine yS fun _ K2 => ?_
 refine yS fun _ K3 => ?_
 refine yR ?_
 refine yF rfl rfl rfl rfl ?_
 refine yL rfl rfl rfl ?_
 refine aa rfl (bj rfl rfl (List.length_map _)) ?_
 refine aa rfl (im rfl rfl rfl) ?_
 refine er (fun hs => ?_) (fun hs => ?_)
 ·have s1 : ¬ p.firsts.length ≤ 3 := by
   have := of_decide_eq_true hs
   omega
  refine yM rfl rfl ?_
  refine yK rfl ?_
  refine yK rfl ?_
  refine yK rfl ?_
  refine yK rfl ?_
  refine aa rfl (cn rfl rfl (by constructor)) ?_
  refine yM rfl rfl ?_
  refine yK rfl ?_
  refine yK rfl ?_
  refine yK rfl ?_
  refine yK rfl ?_
  refine aa rfl (cn rfl rfl (by constructor)) ?_
  refine yN ?_
  dsimp only [St.put]
  refine K3 _ ?_
  refine bd rfl (fun _ => ?_) (fun h => by cases h)
  refine yS fun _ K4 => ?_
  refine yR ?_
  refine yA rfl rfl ?_
  refine yN ?_
  dsimp only [St.put]
  refine K4 _ ?_
  refine bc ?_
  refine bx rfl (by constructor) zN zS ?_
  exact vb (by first | (simp [gk, jw, s1]; done) | (simp [gk, jw, s2]; done) | (simp [gk, s3]; done))
 have s1 : p.firsts.length ≤ 3 := by
  have := of_decide_eq_false hs
  omega
 refine yM rfl rfl ?_
 refine yF rfl rfl rfl rfl ?_
 refine yL rfl rfl rfl ?_
 refine aa rfl (bj rfl rfl (List.length_map _)) ?_
 refine aa rfl (im rfl rfl rfl) ?_
 refine er (fun hs => ?_) (fun hs => ?_)
 ·have s2 : ¬ p.seconds.length ≤ 3 := by
   have := of_decide_eq_true hs
   omega
  refine aa rfl (cv rfl rfl (by constructor)) ?_
  refine yM rfl rfl ?_
  refine yK rfl ?_
  refine yK rfl ?_
  refine yK rfl ?_
  refine yK rfl ?_
  refine aa rfl (cn rfl rfl (by constructor)) ?_
  refine yN ?_
  dsimp only [St.put]
  refine K3 _ ?_
  refine bd rfl (fun _ => ?_) (fun h => by cases h)
  refine yS fun _ K5 => ?_
  refine yR ?_
  refine yA rfl rfl ?_
  refine yN ?_
  dsimp only [St.put]
  refine K5 _ ?_
  refine bc ?_
  refine bx rfl (by constructor) zN zS ?_
  exact vb (by first | (simp [gk, jw, s1]; done) | (simp [gk, jw, s2]; done) | (simp [gk, s3]; done))
 have s2 : p.seconds.length ≤ 3 := by
  have := of_decide_eq_false hs
  omega
 refine aa rfl (cv rfl rfl (by constructor)) ?_
 refine yM rfl rfl ?_
 refine yF rfl rfl rfl rfl ?_
 refine yL rfl rfl rfl ?_
 refine aa rfl (bj rfl rfl (List.length_map _)) ?_
 refine aa rfl (im rfl rfl rfl) ?_
 refine er (fun hs => ?_) (fun hs => ?_)
 ·have s3 : ¬ p.pages.length ≤ 8 := by
   have := of_decide_eq_true hs
   omega
  refine aa rfl (cv rfl rfl (by constructor)) ?_
  refine yN ?_
  dsimp only [St.put]
  refine K3 _ ?_
  refine bd rfl (fun _ => ?_) (fun h => by cases h)
  refine yS fun _ K6 => ?_
  refine yR ?_
  refine yA rfl rfl ?_
  refine yN ?_
  dsimp only [St.put]
  refine K6 _ ?_
  refine bc ?_
  refine bx rfl (by constructor) zN zS ?_
  exact vb (by first | (simp [gk, jw, s1]; done) | (simp [gk, jw, s2]; done) | (simp [gk, s3]; done))
 have s3 : p.pages.length ≤ 8 := by
  have := of_decide_eq_false hs
  omega
 obtain ⟨A, hA⟩ : ∃ A, p.firsts ++ p.seconds = A := ⟨_, rfl⟩
 have hAl : A.length ≤ 6 := by rw [← hA, List.length_append]; omega
 refine aa rfl (cv rfl rfl (by constructor)) ?_
 refine yN ?_
 dsimp only [St.put]
 refine K3 _ ?_
 refine bd rfl (fun h => by cases h) (fun _ => ?_)
 refine bi ?_
 refine K2 _ ?_
 refine yS fun _ K7 => ?_
 refine yR ?_
 refine yA rfl rfl ?_
 refine yN ?_
 dsimp only [St.put]
 refine K7 _ ?_
 refine ugr 3 47 2 rfl (by decide) ?_
 refine yS fun _ K8 => ?_
 refine g8 [(0, none), (1, none), (2, none), (4, none), (5, none), (3, none), (6, none), (7, none)] (fun i => [6].contains i) (fun i => [3, 6].contains i) (fun i => [0, 1, 4, 7].contains i) [] (by kernel_rfl) (by kernel_rfl) ?_
 refine xM rfl rfl rfl rfl rfl ?_
 refine ah rfl rfl rfl rfl (br rfl rfl rfl) ?_
 try dsimp only [St.put]
 refine ai rfl rfl rfl rfl (bh rfl rfl) ?_
 refine ah rfl rfl rfl rfl (br rfl rfl rfl) ?_
 try dsimp only [St.put]
 refine ai rfl rfl rfl rfl (bh rfl rfl) ?_
 refine j4 ?_
 try dsimp only [St.put]
 refine lg rfl rfl rfl (xx (xs := ([] : List ck)) p.firsts rfl rfl zG rfl rfl rfl rfl zA zA (fun v1 => ⟨zD, ?_⟩))
 try dsimp only [St.put]
 refine lg rfl rfl rfl (xx (xs := ([] : List ck) ++ p.firsts) p.seconds rfl rfl zG rfl rfl rfl rfl zA zA (fun v2 => ⟨zD, ?_⟩))
 refine eo rfl rfl rfl rfl (bf rfl (by constructor)) ?_
 refine j3 ?_
 dsimp only [St.put]
 refine K8 _ ?_
 refine ubd 3 (([] : List ck) ++ p.firsts ++ p.seconds) rfl zG rfl rfl rfl ?_
 refine du G zX ?_
 dsimp only
 rw [show ([] : List ck) ++ p.firsts ++ p.seconds = A from hA]
 refine yS fun _ K9 => ?_
 refine yS fun _ K10 => ?_
 refine yR ?_
 refine yA rfl rfl ?_
 refine yN ?_
 dsimp only [St.put]
 refine K10 _ ?_
 refine cb ?_
 refine dh 9 ?_
 refine zQ ?_
 refine du (G) zX ?_
 dsimp only
 refine dz (X := Nat) (fun i => i ≤ A.length ∧ (A.take i).all gy = true ∧ ((A.take i).map (·.id)).Nodup) (fun i => A.length - i) (fun i => [(4, .v (.int .i64 (i : Int))), (5, .any)]) (fun i G' => G') 0 rfl ?_ ?_ (fun _ _ h => h) ?_ ?_ ?_
 ·exact ⟨Nat.zero_le _, rfl, by simp⟩
 ·exact zF
 ·rintro i hI
  exact zL
 ·exact fun _ _ _ _ h => .inl h
 rintro i hI
 dsimp only at hI ⊢
 refine yS fun _ K11 => ?_
 refine yS fun _ K12 => ?_
 refine yR ?_
 refine yM rfl rfl ?_
 refine yM rfl rfl ?_
 refine aa rfl (bj rfl rfl (List.length_map _)) ?_
 refine aa rfl (c5 rfl rfl rfl) ?_
 refine yN ?_
 dsimp only [St.put]
 refine K12 _ ?_
 refine bd rfl (fun hc => ?_) (fun hc => ?_)
 ·replace hc := of_decide_eq_true hc
  obtain ⟨r, hr⟩ : ∃ r, A[i]? = some r := d8 (by omega)
  refine bi ?_
  refine K11 _ ?_
  refine yS fun _ K13 => ?_
  refine cb ?_
  refine yS fun _ K14 => ?_
  refine yS fun _ K15 => ?_
  refine yR ?_
  refine yM rfl rfl ?_
  refine yM rfl rfl ?_
  refine aa rfl (bk rfl rfl rfl rfl (bu (by assumption)) (Enc.len _)) ?_
  refine yF rfl rfl rfl rfl ?_
  refine yL rfl rfl rfl ?_
  try dsimp only [St.put]
  refine af rfl (bl rfl rfl rfl (rn _ _ _) ?_)
  refine aa rfl (ei rfl rfl) ?_
  refine er (fun hs => ?_) (fun hs => ?_)
  ·have q1 : inB r.id 0 9999 = false := by simpa using hs
   refine yM rfl rfl ?_
   refine yK rfl ?_
   refine yK rfl ?_
   refine yK rfl ?_
   refine yK rfl ?_
   refine yK rfl ?_
   refine yK rfl ?_
   refine yK rfl ?_
   refine aa rfl (cn rfl rfl (by constructor)) ?_
   refine yN ?_
   dsimp only [St.put]
   refine K15 _ ?_
   refine bd rfl (fun _ => ?_) (fun h => by cases h)
   refine yS fun _ K16 => ?_
   refine yR ?_
   refine yA rfl rfl ?_
   refine yN ?_
   dsimp only [St.put]
   refine K16 _ ?_
   refine bc ?_
   refine bx rfl (by constructor) zN zS ?_
   exact vb (by
    have hb : gy r = false := by first | (simp [gy, q1]; done) | (simp [gy, q2]; done)
    have : A.all gy = false := kj hr hb
    rw [← hA] at this
    simp only [gk, jw, this, Bool.and_false, Bool.false_and])
  have q1 : inB r.id 0 9999 = true := by simpa using hs
  refine yM rfl rfl ?_
  refine yM rfl rfl ?_
  refine yM rfl rfl ?_
  refine aa rfl (bk rfl rfl rfl rfl (bu (by assumption)) (Enc.len _)) ?_
  refine yF rfl rfl rfl rfl ?_
  refine yL rfl rfl rfl ?_
  try dsimp only [St.put]
  refine af rfl (bl rfl rfl rfl (rn _ _ _) ?_)
  refine aa rfl (ei rfl rfl) ?_
  refine er (fun hs => ?_) (fun hs => ?_)
  ·have q2 : inB r.miss 0 90 = false := by simpa using hs
   refine aa rfl (cv rfl rfl (by constructor)) ?_
   refine yN ?_
   dsimp only [St.put]
   refine K15 _ ?_
   refine bd rfl (fun _ => ?_) (fun h => by cases h)
   refine yS fun _ K17 => ?_
   refine yR ?_
   refine yA rfl rfl ?_
   refine yN ?_
   dsimp only [St.put]
   refine K17 _ ?_
   refine bc ?_
   refine bx rfl (by constructor) zN zS ?_
   exact vb (by
    have hb : gy r = false := by first | (simp [gy, q1]; done) | (simp [gy, q2]; done)
    have : A.all gy = false := kj hr hb
    rw [← hA] at this
    simp only [gk, jw, this, Bool.and_false, Bool.false_and])
  have q2 : inB r.miss 0 90 = true := by simpa using hs
  have hrb : gy r = true := by simp [gy, q1, q2]
  refine aa rfl (cv rfl rfl (by constructor)) ?_
  refine yN ?_
  dsimp only [St.put]
  refine K15 _ ?_
  refine bd rfl (fun h => by cases h) (fun _ => ?_)
  refine bi ?_
  refine K14 _ ?_
  refine yS fun _ K18 => ?_
  refine yR ?_
  refine yA rfl rfl ?_
  refine yN ?_
  dsimp only [St.put]
  refine K18 _ ?_
  refine cb ?_
  refine dh 9 ?_
  refine zQ ?_
  refine du (G) zX ?_
  dsimp only
  refine dz (X := Nat) (fun k => k ≤ i ∧ ∀ y ∈ A.take k, y.id ≠ r.id) (fun k => i - k) (fun k => [(5, .v (.int .i64 (k : Int)))]) (fun k G' => G') 0 rfl ?_ ?_ (fun _ _ h => h) ?_ ?_ ?_
  ·exact ⟨Nat.zero_le _, by simp⟩
  ·exact zF
  ·rintro k hI
   exact zL
  ·exact fun _ _ _ _ h => .inl h
  rintro k hJ
  dsimp only at hJ ⊢
  refine yS fun _ K19 => ?_
  refine yS fun _ K20 => ?_
  refine yR ?_
  refine yM rfl rfl ?_
  refine yM rfl rfl ?_
  refine aa rfl (c5 rfl rfl rfl) ?_
  refine yN ?_
  dsimp only [St.put]
  refine K20 _ ?_
  refine bd rfl (fun hc => ?_) (fun hc => ?_)
  ·replace hc := of_decide_eq_true hc
   obtain ⟨y, hy⟩ : ∃ y, A[k]? = some y := d8 (by omega)
   refine bi ?_
   refine K19 _ ?_
   refine yS fun _ K21 => ?_
   refine cb ?_
   refine yS fun _ K22 => ?_
   refine g8 [(0, none), (1, none), (2, none), (3, none), (4, none), (5, none), (6, none), (7, none), (8, none), (9, none), (10, none)] (fun i => [].contains i) (fun i => [].contains i) (fun i => [0, 1, 2, 3, 5, 6, 7, 8, 10].contains i) [] (by kernel_rfl) (by kernel_rfl) ?_
   refine xM rfl rfl rfl rfl rfl ?_
   refine xM rfl rfl rfl rfl rfl ?_
   try dsimp only [St.put]
   refine ah rfl rfl rfl rfl (bk rfl rfl rfl rfl (bu (by assumption)) (Enc.len _)) ?_
   refine ah rfl rfl rfl rfl (br rfl rfl rfl) ?_
   try dsimp only [St.put]
   refine ai rfl rfl rfl rfl (bh rfl rfl) ?_
   refine xM rfl rfl rfl rfl rfl ?_
   refine xM rfl rfl rfl rfl rfl ?_
   try dsimp only [St.put]
   refine ah rfl rfl rfl rfl (bk rfl rfl rfl rfl (bu (by assumption)) (Enc.len _)) ?_
   refine ah rfl rfl rfl rfl (br rfl rfl rfl) ?_
   try dsimp only [St.put]
   refine ai rfl rfl rfl rfl (bh rfl rfl) ?_
   refine ah rfl rfl rfl rfl (f3 rfl rfl rfl) ?_
   refine cz ?_
   dsimp only [St.put]
   refine K22 _ ?_
   refine bd rfl (fun hc => ?_) (fun hc => ?_)
   ·have hyr : y.id = r.id := of_decide_eq_true hc
    refine yS fun _ K23 => ?_
    refine yR ?_
    refine yA rfl rfl ?_
    refine yN ?_
    dsimp only [St.put]
    refine K23 _ ?_
    refine bc ?_
    refine bx rfl (by constructor) zN zS ?_
    exact vb (by
     have : ¬ (A.map (·.id)).Nodup := zv hy hr (by omega) hyr
     rw [← hA] at this
     simp only [gk, jw, decide_eq_false this, Bool.and_false, Bool.false_and])
   have hne : y.id ≠ r.id := of_decide_eq_false hc
   refine bi ?_
   refine K21 _ ?_
   refine yR ?_
   refine yM rfl rfl ?_
   refine aa rfl (cm rfl rfl rfl (by omega)) ?_
   refine yA rfl rfl ?_
   refine yN ?_
   dsimp only [St.put]
   exact ⟨k + 1, by omega, ⟨by omega, ud2 (p := fun y : ck => y.id ≠ r.id) hy hne hJ.2⟩, ⟨⟨rfl, rfl⟩, zF, zB, zN, zX⟩⟩
  replace hc := of_decide_eq_false hc
  have hki : k = i := by omega
  rw [hki] at hJ
  have hnd : r.id ∉ (A.take i).map (·.id) := fun hm => by
   obtain ⟨y, hy1, hy2⟩ := List.mem_map.1 hm
   exact hJ.2 y hy1 hy2
  refine dq ?_
  refine K13 _ ?_
  refine yR ?_
  refine yM rfl rfl ?_
  refine aa rfl (cm rfl rfl rfl (by omega)) ?_
  refine yA rfl rfl ?_
  refine yN ?_
  dsimp only [St.put]
  exact ⟨i + 1, by omega, ⟨by omega, by rw [qz hr, hI.2.1, hrb]; rfl, by rw [pn hr]; exact zw hI.2.2 hnd⟩, ⟨⟨rfl, rfl⟩, zF, zB, zN, zX⟩⟩
 replace hc := of_decide_eq_false hc
 have hRB : jw p = true := by
  have h1 := hI.2.1
  have h2 := hI.2.2
  rw [g9 (show A.length ≤ i by omega), ← hA] at h1 h2
  unfold jw
  rw [h1, decide_eq_true h2, decide_eq_true s1, decide_eq_true s2]; rfl
 refine dq ?_
 refine K9 _ ?_
 refine yS fun _ K24 => ?_
 refine yR ?_
 refine yA rfl rfl ?_
 refine yN ?_
 dsimp only [St.put]
 refine K24 _ ?_
 refine yS fun _ K25 => ?_
 refine yS fun _ K26 => ?_
 refine yR ?_
 refine yA rfl rfl ?_
 refine yN ?_
 dsimp only [St.put]
 refine K26 _ ?_
 refine cb ?_
 refine dh 9 ?_
 refine zQ ?_
 refine du (G) zX ?_
 dsimp only
 refine dz (X := Nat) (fun j => j ≤ p.pages.length ∧ ql p j = true) (fun j => p.pages.length - j) (fun j => [(6, .v (.int .i64 (iu p.pages j))), (7, .v (.int .i64 (j : Int))), (8, .any)]) (fun j G' => G') 0 rfl ?_ ?_ (fun _ _ h => h) ?_ ?_ ?_
 ·exact ⟨Nat.zero_le _, rfl⟩
 ·exact zF
 ·rintro j hI
  exact zL
 ·exact fun _ _ _ _ h => .inl h
 rintro j hK
 dsimp only at hK ⊢
 refine yS fun _ K27 => ?_
 refine yS fun _ K28 => ?_
 refine yR ?_
 refine yM rfl rfl ?_
 refine yF rfl rfl rfl rfl ?_
 refine yL rfl rfl rfl ?_
 refine aa rfl (bj rfl rfl (List.length_map _)) ?_
 refine aa rfl (c5 rfl rfl rfl) ?_
 refine yN ?_
 dsimp only [St.put]
 refine K28 _ ?_
 refine bd rfl (fun hc => ?_) (fun hc => ?_)
 ·replace hc := of_decide_eq_true hc
  obtain ⟨x, hx⟩ : ∃ x, p.pages[j]? = some x := d8 (by omega)
  refine bi ?_
  refine K27 _ ?_
  refine yS fun _ K29 => ?_
  refine cb ?_
  refine yS fun _ K30 => ?_
  refine yR ?_
  refine yF rfl rfl rfl rfl ?_
  refine yL rfl rfl rfl ?_
  refine yM rfl rfl ?_
  refine aa rfl (bk rfl rfl rfl rfl (bu (by assumption)) (Enc.len _)) ?_
  refine yE rfl rfl rfl ?_
  try dsimp only [St.put]
  refine af rfl (dt rfl ?_)
  try dsimp only [St.put]
  refine af rfl (da rfl rfl rfl zG rfl rfl (by rfl) ?_)
  refine yN ?_
  dsimp only [St.put]
  refine K30 _ ?_
  refine gl (i := 8) rfl zG zC ?_
  dsimp only
  refine yS fun _ K31 => ?_
  refine dh 9 ?_
  refine zQ ?_
  refine l5 (X := Bool) (fun d => mp p (iu p.pages j) x = !d) (fun d => [(120, .v (.bool d))]) (fun d G' => G') rfl ?_ (fun _ _ _ _ h => .inl h) ?_ ?_
  ·rintro d hI
   exact zL
  ·refine sk [(0, none), (1, none), (2, none), (3, none), (4, none), (5, none), (6, none), (7, none), (8, none), (9, none), (10, none), (11, none), (12, none), (13, none), (14, none), (15, none)] (fun _ => false) (fun i => [0, 2, 3, 4, 5, 7, 9, 10, 11, 12, 14].contains i) 23 (rl [16, 23]) (by kernel_rfl) (by kernel_rfl) ?_
   refine ah rfl rfl rfl rfl (br rfl rfl rfl) ?_
   try dsimp only [St.put]
   refine ai rfl rfl rfl rfl (bh rfl rfl) ?_
   refine xM rfl rfl rfl rfl rfl ?_
   refine ah rfl rfl rfl rfl (ug rfl rfl rfl) ?_
   refine j5 (fun hs => ?_) (fun hs => ?_)
   ·have z1 : x.fr ≤ iu p.pages j := of_decide_eq_true hs
    refine xM rfl rfl rfl rfl rfl ?_
    refine am rfl rfl rfl ?_
    refine am rfl rfl rfl ?_
    refine am rfl rfl rfl ?_
    refine am rfl rfl rfl ?_
    refine am rfl rfl rfl ?_
    refine ah rfl rfl rfl rfl (cn rfl rfl (by constructor)) ?_
    refine xM rfl rfl rfl rfl rfl ?_
    refine am rfl rfl rfl ?_
    refine am rfl rfl rfl ?_
    refine am rfl rfl rfl ?_
    refine am rfl rfl rfl ?_
    refine cz ?_
    refine eg [16] (by kernel_rfl) (by simp) ?_
    refine ef ?_ ?_
    ·refine gm rfl rfl rfl ?_
     refine fb [(17, none), (18, none), (19, none), (20, none), (21, none), (22, none), (23, none), (24, none), (25, none)] (fun i => [17, 18, 19, 20, 22, 24, 25].contains i) 13 (rl [26, 13]) (by kernel_rfl) ?_
     refine am rfl rfl rfl ?_
     refine ah rfl rfl rfl rfl (cn rfl rfl (by constructor)) ?_
     refine xM rfl rfl rfl rfl rfl ?_
     refine am rfl rfl rfl ?_
     refine am rfl rfl rfl ?_
     refine am rfl rfl rfl ?_
     refine am rfl rfl rfl ?_
     refine am rfl rfl rfl ?_
     refine am rfl rfl rfl ?_
     refine cz ?_
     refine eg [26] (by kernel_rfl) (by simp) ?_
     refine ef ?_ ?_
     ·refine gm rfl rfl rfl ?_
      refine fb [(27, none), (28, none), (29, none), (30, none), (31, none), (32, none), (33, none), (34, none), (35, none)] (fun i => [27, 28, 29, 30, 32, 34, 35].contains i) 3 (rl [36, 3]) (by kernel_rfl) ?_
      refine am rfl rfl rfl ?_
      refine ah rfl rfl rfl rfl (cn rfl rfl (by constructor)) ?_
      refine xM rfl rfl rfl rfl rfl ?_
      refine am rfl rfl rfl ?_
      refine am rfl rfl rfl ?_
      refine am rfl rfl rfl ?_
      refine am rfl rfl rfl ?_
      refine am rfl rfl rfl ?_
      refine am rfl rfl rfl ?_
      refine cz ?_
      refine eg [36] (by kernel_rfl) (by simp) ?_
      refine ef ?_ ?_
      ·refine gm rfl rfl rfl ?_
       refine fb [(37, none), (38, none)] (fun i => [37, 38].contains i) 0 (rl [39]) (by kernel_rfl) ?_
       refine am rfl rfl rfl ?_
       refine ah rfl rfl rfl rfl (cn rfl rfl (by constructor)) ?_
       refine cz ?_
       dsimp only [St.put]
       refine i3 (by kernel_rfl) ?_
       refine ⟨_, ?_, ⟨⟨rfl, rfl⟩, zF, zB, zN, zX⟩⟩
       simp_all [mp]
       try (intro h0; omega)
      exact ed
     exact ed
    exact ed
   have z1 : ¬ x.fr ≤ iu p.pages j := of_decide_eq_false hs
   refine xM rfl rfl rfl rfl rfl ?_
   refine ah rfl rfl rfl rfl (br rfl rfl rfl) ?_
   try dsimp only [St.put]
   refine ai rfl rfl rfl rfl (bh rfl rfl) ?_
   refine ah rfl rfl rfl rfl (br rfl rfl rfl) ?_
   try dsimp only [St.put]
   refine ai rfl rfl rfl rfl (bh rfl rfl) ?_
   refine ah rfl rfl rfl rfl (c5 rfl rfl rfl) ?_
   refine j5 (fun hs => ?_) (fun hs => ?_)
   ·have z2 : x.to < x.fr := of_decide_eq_true hs
    refine ah rfl rfl rfl rfl (cv rfl rfl (by constructor)) ?_
    refine xM rfl rfl rfl rfl rfl ?_
    refine am rfl rfl rfl ?_
    refine am rfl rfl rfl ?_
    refine am rfl rfl rfl ?_
    refine am rfl rfl rfl ?_
    refine cz ?_
    refine eg [16] (by kernel_rfl) (by simp) ?_
    refine ef ?_ ?_
    ·refine gm rfl rfl rfl ?_
     refine fb [(17, none), (18, none), (19, none), (20, none), (21, none), (22, none), (23, none), (24, none), (25, none)] (fun i => [17, 18, 19, 20, 22, 24, 25].contains i) 13 (rl [26, 13]) (by kernel_rfl) ?_
     refine am rfl rfl rfl ?_
     refine ah rfl rfl rfl rfl (cn rfl rfl (by constructor)) ?_
     refine xM rfl rfl rfl rfl rfl ?_
     refine am rfl rfl rfl ?_
     refine am rfl rfl rfl ?_
     refine am rfl rfl rfl ?_
     refine am rfl rfl rfl ?_
     refine am rfl rfl rfl ?_
     refine am rfl rfl rfl ?_
     refine cz ?_
     refine eg [26] (by kernel_rfl) (by simp) ?_
     refine ef ?_ ?_
     ·refine gm rfl rfl rfl ?_
      refine fb [(27, none), (28, none), (29, none), (30, none), (31, none), (32, none), (33, none), (34, none), (35, none)] (fun i => [27, 28, 29, 30, 32, 34, 35].contains i) 3 (rl [36, 3]) (by kernel_rfl) ?_
      refine am rfl rfl rfl ?_
      refine ah rfl rfl rfl rfl (cn rfl rfl (by constructor)) ?_
      refine xM rfl rfl rfl rfl rfl ?_
      refine am rfl rfl rfl ?_
      refine am rfl rfl rfl ?_
      refine am rfl rfl rfl ?_
      refine am rfl rfl rfl ?_
      refine am rfl rfl rfl ?_
      refine am rfl rfl rfl ?_
      refine cz ?_
      refine eg [36] (by kernel_rfl) (by simp) ?_
      refine ef ?_ ?_
      ·refine gm rfl rfl rfl ?_
       refine fb [(37, none), (38, none)] (fun i => [37, 38].contains i) 0 (rl [39]) (by kernel_rfl) ?_
       refine am rfl rfl rfl ?_
       refine ah rfl rfl rfl rfl (cn rfl rfl (by constructor)) ?_
       refine cz ?_
       dsimp only [St.put]
       refine i3 (by kernel_rfl) ?_
       refine ⟨_, ?_, ⟨⟨rfl, rfl⟩, zF, zB, zN, zX⟩⟩
       simp_all [mp]
       try (intro h0; omega)
      exact ed
     exact ed
    exact ed
   have z2 : ¬ x.to < x.fr := of_decide_eq_false hs
   refine ah rfl rfl rfl rfl (cv rfl rfl (by constructor)) ?_
   refine xM rfl rfl rfl rfl rfl ?_
   refine ah rfl rfl rfl rfl (br rfl rfl rfl) ?_
   try dsimp only [St.put]
   refine ai rfl rfl rfl rfl (bh rfl rfl) ?_
   refine ah rfl rfl rfl rfl (br rfl rfl rfl) ?_
   try dsimp only [St.put]
   refine ai rfl rfl rfl rfl (c := gp p.text) (jb (cs := cells p) rfl rfl (show 1 ≤ 4 by decide)) ?_
   refine cz ?_
   refine eg [16] (by kernel_rfl) (by simp) ?_
   refine ef ?_ ?_
   ·try dsimp only [St.put]
    refine i7 rfl rfl rfl (bl rfl rfl rfl (uj5 p.text ht) ?_)
    refine fb [(17, none), (18, none), (19, none), (20, none), (21, none), (22, none), (23, none), (24, none), (25, none)] (fun i => [17, 18, 19, 20, 22, 24, 25].contains i) 13 (rl [26, 13]) (by kernel_rfl) ?_
    refine ah rfl rfl rfl rfl (kx rfl rfl rfl) ?_
    refine j5 (fun hs => ?_) (fun hs => ?_)
    ·have z3 : (mn p.text : Int) ≤ x.to := of_decide_eq_true hs
     refine ah rfl rfl rfl rfl (cv rfl rfl (by constructor)) ?_
     refine xM rfl rfl rfl rfl rfl ?_
     refine am rfl rfl rfl ?_
     refine am rfl rfl rfl ?_
     refine am rfl rfl rfl ?_
     refine am rfl rfl rfl ?_
     refine am rfl rfl rfl ?_
     refine am rfl rfl rfl ?_
     refine cz ?_
     refine eg [26] (by kernel_rfl) (by simp) ?_
     refine ef ?_ ?_
     ·refine gm rfl rfl rfl ?_
      refine fb [(27, none), (28, none), (29, none), (30, none), (31, none), (32, none), (33, none), (34, none), (35, none)] (fun i => [27, 28, 29, 30, 32, 34, 35].contains i) 3 (rl [36, 3]) (by kernel_rfl) ?_
      refine am rfl rfl rfl ?_
      refine ah rfl rfl rfl rfl (cn rfl rfl (by constructor)) ?_
      refine xM rfl rfl rfl rfl rfl ?_
      refine am rfl rfl rfl ?_
      refine am rfl rfl rfl ?_
      refine am rfl rfl rfl ?_
      refine am rfl rfl rfl ?_
      refine am rfl rfl rfl ?_
      refine am rfl rfl rfl ?_
      refine cz ?_
      refine eg [36] (by kernel_rfl) (by simp) ?_
      refine ef ?_ ?_
      ·refine gm rfl rfl rfl ?_
       refine fb [(37, none), (38, none)] (fun i => [37, 38].contains i) 0 (rl [39]) (by kernel_rfl) ?_
       refine am rfl rfl rfl ?_
       refine ah rfl rfl rfl rfl (cn rfl rfl (by constructor)) ?_
       refine cz ?_
       dsimp only [St.put]
       refine i3 (by kernel_rfl) ?_
       refine ⟨_, ?_, ⟨⟨rfl, rfl⟩, zF, zB, zN, zX⟩⟩
       simp_all [mp]
       try (intro h0; omega)
      exact ed
     exact ed
    have z3 : ¬ (mn p.text : Int) ≤ x.to := of_decide_eq_false hs
    refine ah rfl rfl rfl rfl (cv rfl rfl (by constructor)) ?_
    refine xM rfl rfl rfl rfl rfl ?_
    refine ah rfl rfl rfl rfl (br rfl rfl rfl) ?_
    try dsimp only [St.put]
    refine ai rfl rfl rfl rfl (bh rfl rfl) ?_
    refine ah rfl rfl rfl rfl (br rfl rfl rfl) ?_
    try dsimp only [St.put]
    refine ai rfl rfl rfl rfl (bh rfl rfl) ?_
    refine ah rfl rfl rfl rfl (bj rfl rfl (List.length_map _)) ?_
    refine ah rfl rfl rfl rfl (ir rfl rfl rfl (by omega)) ?_
    refine cz ?_
    refine eg [26] (by kernel_rfl) (by simp) ?_
    refine ef ?_ ?_
    ·try dsimp only [St.put]
     refine i7 rfl rfl rfl (bl rfl rfl rfl (rn _ _ _) ?_)
     refine fb [(27, none), (28, none), (29, none), (30, none), (31, none), (32, none), (33, none), (34, none), (35, none)] (fun i => [27, 28, 29, 30, 32, 34, 35].contains i) 3 (rl [36, 3]) (by kernel_rfl) ?_
     refine ah rfl rfl rfl rfl (ei rfl rfl) ?_
     refine j5 (fun hs => ?_) (fun hs => ?_)
     ·have z4 : inB x.fst (-1) ((p.firsts.length : Int) - 1) = false := by simpa using hs
      refine ah rfl rfl rfl rfl (cv rfl rfl (by constructor)) ?_
      refine xM rfl rfl rfl rfl rfl ?_
      refine am rfl rfl rfl ?_
      refine am rfl rfl rfl ?_
      refine am rfl rfl rfl ?_
      refine am rfl rfl rfl ?_
      refine am rfl rfl rfl ?_
      refine am rfl rfl rfl ?_
      refine cz ?_
      refine eg [36] (by kernel_rfl) (by simp) ?_
      refine ef ?_ ?_
      ·refine gm rfl rfl rfl ?_
       refine fb [(37, none), (38, none)] (fun i => [37, 38].contains i) 0 (rl [39]) (by kernel_rfl) ?_
       refine am rfl rfl rfl ?_
       refine ah rfl rfl rfl rfl (cn rfl rfl (by constructor)) ?_
       refine cz ?_
       dsimp only [St.put]
       refine i3 (by kernel_rfl) ?_
       refine ⟨_, ?_, ⟨⟨rfl, rfl⟩, zF, zB, zN, zX⟩⟩
       simp_all [mp]
       try (intro h0; omega)
      exact ed
     have z4 : inB x.fst (-1) ((p.firsts.length : Int) - 1) = true := by simpa using hs
     refine ah rfl rfl rfl rfl (cv rfl rfl (by constructor)) ?_
     refine xM rfl rfl rfl rfl rfl ?_
     refine ah rfl rfl rfl rfl (br rfl rfl rfl) ?_
     try dsimp only [St.put]
     refine ai rfl rfl rfl rfl (bh rfl rfl) ?_
     refine ah rfl rfl rfl rfl (br rfl rfl rfl) ?_
     try dsimp only [St.put]
     refine ai rfl rfl rfl rfl (bh rfl rfl) ?_
     refine ah rfl rfl rfl rfl (bj rfl rfl (List.length_map _)) ?_
     refine ah rfl rfl rfl rfl (ir rfl rfl rfl (by omega)) ?_
     refine cz ?_
     refine eg [36] (by kernel_rfl) (by simp) ?_
     refine ef ?_ ?_
     ·try dsimp only [St.put]
      refine i7 rfl rfl rfl (bl rfl rfl rfl (rn _ _ _) ?_)
      refine fb [(37, none), (38, none)] (fun i => [37, 38].contains i) 0 (rl [39]) (by kernel_rfl) ?_
      refine ah rfl rfl rfl rfl (ei rfl rfl) ?_
      refine j5 (fun hs => ?_) (fun hs => ?_)
      ·have z5 : inB x.snd (-1) ((p.seconds.length : Int) - 1) = false := by simpa using hs
       refine ah rfl rfl rfl rfl (cv rfl rfl (by constructor)) ?_
       refine cz ?_
       dsimp only [St.put]
       refine i3 (by kernel_rfl) ?_
       refine ⟨_, ?_, ⟨⟨rfl, rfl⟩, zF, zB, zN, zX⟩⟩
       simp_all [mp]
       try (intro h0; omega)
      have z5 : inB x.snd (-1) ((p.seconds.length : Int) - 1) = true := by simpa using hs
      refine ah rfl rfl rfl rfl (cv rfl rfl (by constructor)) ?_
      refine cz ?_
      dsimp only [St.put]
      refine i3 (by kernel_rfl) ?_
      refine ⟨_, ?_, ⟨⟨rfl, rfl⟩, zF, zB, zN, zX⟩⟩
      simp_all [mp]
      try (intro h0; omega)
     exact ed
    exact ed
   exact ed
  rintro d hst
  dsimp only at hst ⊢
  refine bd rfl (fun hc => ?_) (fun hc => ?_)
  ·have hhd : mp p (iu p.pages j) x = false := by rw [hst, hc]; rfl
   refine yS fun _ K33 => ?_
   refine yR ?_
   refine yA rfl rfl ?_
   refine yN ?_
   dsimp only [St.put]
   refine K33 _ ?_
   refine bc ?_
   refine bx rfl (by constructor) zN zS ?_
   exact vb (wo hx (by rw [wt, hhd]; rfl)).symm
  have hhd : mp p (iu p.pages j) x = true := by rw [hst, hc]; rfl
  refine bi ?_
  refine K31 _ ?_
  refine yS fun _ K34 => ?_
  refine yS fun _ K35 => ?_
  refine yR ?_
  refine yF rfl rfl rfl rfl ?_
  try dsimp only [St.put]
  refine ae rfl (c := gp p.text) (jb (cs := cells p) rfl rfl (show 1 ≤ 4 by decide)) ?_
  refine yE rfl rfl rfl ?_
  refine yF rfl rfl rfl rfl ?_
  refine yL rfl rfl rfl ?_
  refine yF rfl rfl rfl rfl ?_
  refine yL rfl rfl rfl ?_
  try dsimp only [St.put]
  refine af rfl (bl rfl rfl rfl (uct p.text x x.fst x.found ht) ?_)
  refine aa rfl (ei rfl rfl) ?_
  refine er (fun hs => ?_) (fun hs => ?_)
  ·have hf1 : io p.text x x.fst x.found = false := by simpa using hs
   refine yM rfl rfl ?_
   refine yK rfl ?_
   refine yK rfl ?_
   refine yK rfl ?_
   refine yK rfl ?_
   refine yK rfl ?_
   refine yK rfl ?_
   refine yK rfl ?_
   refine yK rfl ?_
   refine yK rfl ?_
   refine aa rfl (cn rfl rfl (by constructor)) ?_
   refine yN ?_
   dsimp only [St.put]
   refine K35 _ ?_
   refine bd rfl (fun _ => ?_) (fun h => by cases h)
   refine yS fun _ K36 => ?_
   refine yR ?_
   refine yA rfl rfl ?_
   refine yN ?_
   dsimp only [St.put]
   refine K36 _ ?_
   refine bc ?_
   refine bx rfl (by constructor) zN zS ?_
   exact vb (wo hx (by rw [wt, hhd, hf1]; first | rfl | (rw [hf2]; rfl))).symm
  have hf1 : io p.text x x.fst x.found = true := by simpa using hs
  refine yM rfl rfl ?_
  refine yF rfl rfl rfl rfl ?_
  try dsimp only [St.put]
  refine ae rfl (c := gp p.text) (jb (cs := cells p) rfl rfl (show 1 ≤ 4 by decide)) ?_
  refine yE rfl rfl rfl ?_
  refine yF rfl rfl rfl rfl ?_
  refine yL rfl rfl rfl ?_
  refine yF rfl rfl rfl rfl ?_
  refine yL rfl rfl rfl ?_
  try dsimp only [St.put]
  refine af rfl (bl rfl rfl rfl (uct p.text x x.snd x.well ht) ?_)
  refine aa rfl (ei rfl rfl) ?_
  refine er (fun hs => ?_) (fun hs => ?_)
  ·have hf2 : io p.text x x.snd x.well = false := by simpa using hs
   refine aa rfl (cv rfl rfl (by constructor)) ?_
   refine yN ?_
   dsimp only [St.put]
   refine K35 _ ?_
   refine bd rfl (fun _ => ?_) (fun h => by cases h)
   refine yS fun _ K37 => ?_
   refine yR ?_
   refine yA rfl rfl ?_
   refine yN ?_
   dsimp only [St.put]
   refine K37 _ ?_
   refine bc ?_
   refine bx rfl (by constructor) zN zS ?_
   exact vb (wo hx (by rw [wt, hhd, hf1]; first | rfl | (rw [hf2]; rfl))).symm
  have hf2 : io p.text x x.snd x.well = true := by simpa using hs
  refine aa rfl (cv rfl rfl (by constructor)) ?_
  refine yN ?_
  dsimp only [St.put]
  refine K35 _ ?_
  refine bd rfl (fun h => by cases h) (fun _ => ?_)
  refine bi ?_
  refine K34 _ ?_
  refine yR ?_
  refine yF rfl rfl rfl rfl ?_
  refine yL rfl rfl rfl ?_
  refine yA rfl rfl ?_
  refine yN ?_
  dsimp only [St.put]
  refine K29 _ ?_
  refine yR ?_
  refine yM rfl rfl ?_
  refine aa rfl (cm rfl rfl rfl (by omega)) ?_
  refine yA rfl rfl ?_
  refine yN ?_
  dsimp only [St.put]
  rw [← uek hx]
  exact ⟨j + 1, by omega, ⟨by omega, by rw [uc3, hK.2, zk hx, wt, hhd, hf1, hf2]; rfl⟩, ⟨⟨rfl, rfl⟩, zF, zB, zN, zX⟩⟩
 replace hc := of_decide_eq_false hc
 obtain rfl : j = p.pages.length := by omega
 refine dq ?_
 refine K25 _ ?_
 refine yS fun _ K38 => ?_
 refine yR ?_
 refine yA rfl rfl ?_
 refine yN ?_
 dsimp only [St.put]
 refine K38 _ ?_
 refine bc ?_
 refine bx rfl (by constructor) zN zS ?_
 exact vb (by unfold gk; rw [hRB, hK.2, decide_eq_true s3]; rfl)
end Go.Proofs.YtgffhbbcpgdjjaaGreatDoor
namespace Go.AB
open Go Go.RowKit
open Go.AB.Enc (cells)
open Go.PB (bg aj PlaceD bn bq bp ck az ak dc ce dr dv)
theorem qx {p : ak} {n : Int} (h : e8 p n = 0) : dg p = 0 ∧ ∃ (j : Nat) (x : az), n = (j : Int) ∧ p.pages[j]? = some x ∧ mi p n = x := by
 unfold e8 at h
 by_cases hc : dg p = 0
 ·rw [decide_eq_true hc, cond_true] at h
  cases hb : inB n 0 ((p.pages.length : Int) - 1)
  ·rw [hb] at h; cases h
  ·rw [inB_true] at hb
   obtain ⟨x, hx⟩ : ∃ x, p.pages[n.toNat]? = some x := ⟨_, List.getElem?_eq_getElem (show n.toNat < p.pages.length by omega)⟩
   exact ⟨hc, n.toNat, x, by omega, hx, by unfold mi; rw [hx]; rfl⟩
 ·rw [decide_eq_false hc, cond_false] at h
  exact absurd h hc
end Go.AB
namespace Go.Proofs.YtgffhbbcpgdjjaaGreatDoor
set_option maxRecDepth 10000
open Go.RowKit Go.AB
open Go.AB.Enc (cells)
open Go.PB (bg aj PlaceD bn bq bp ck az ak dc ce dr dv)
theorem uj8 (p : ak) : Pure Tryz.prog 34 [val p] (.v (.int .i64 (dg p))) := by
 refine di Tryz.func34 rfl (fun m => .v) fun G nx => ?_
 simp only [Tryz.ntmps34, List.length_cons, List.length_nil, Nat.reduceAdd, Nat.reduceSub]
 refine cp fun hlt => ?_
 dsimp only at hlt
 refine ar fun K1 hK1 => ?_
 refine aw ?_
 try dsimp only [St.put]
 refine af rfl (ip rfl rfl (by simp) ?_)
 refine aa rfl (bf rfl (by constructor)) ?_
 refine av ?_
 dsimp only [St.put]
 refine hK1 _ ?_
 refine ar fun K2 hK2 => ?_
 refine ar fun K3 hK3 => ?_
 refine aw ?_
 first | refine aa rfl (br rfl rfl rfl) ?_ | refine aa rfl (cr rfl rfl) ?_
 try dsimp only [St.put]
 refine ae rfl (c := gp p.text) (jb (cs := cells p) rfl rfl (show 1 ≤ 4 by decide)) ?_
 try dsimp only [St.put]
 refine af rfl (bl rfl rfl rfl (up6 p.text) ?_)
 refine aa rfl (bf rfl (by constructor)) ?_
 refine av ?_
 dsimp only [St.put]
 refine hK3 _ ?_
 refine ar fun K4 hK4 => ?_
 refine aw ?_
 refine aa rfl (ba rfl (by constructor)) ?_
 refine aa rfl (fq rfl rfl rfl) ?_
 refine av ?_
 dsimp only [St.put]
 refine hK4 _ ?_
 refine bd rfl (fun hc => ?_) (fun hc => ?_)
 ·have ht : c7 p.text = false := by
   have h0 := j8 hc
   unfold fw at h0
   cases h1 : c7 p.text
   ·rfl
   ·rw [h1] at h0; exact absurd rfl h0
  refine ar fun K5 hK5 => ?_
  refine aw ?_
  refine aa rfl (ba rfl (by constructor)) ?_
  refine aa rfl (bf rfl (by constructor)) ?_
  refine av ?_
  dsimp only [St.put]
  refine hK5 _ ?_
  refine bc ?_
  refine bx rfl (by constructor) zN zS ?_
  exact vi (by simp [dg, fw, ht])
 ·have ht : c7 p.text = true := by
   have h0 := iy hc
   unfold fw at h0
   cases h1 : c7 p.text
   ·rw [h1] at h0; cases h0
   ·rfl
  refine bi ?_
  refine hK2 _ ?_
  refine ar fun K6 hK6 => ?_
  refine ar fun K7 hK7 => ?_
  refine aw ?_
  try dsimp only [St.put]
  first | refine ae rfl (bh rfl rfl) ?_ | refine ae rfl (aq rfl rfl (Enc.len _)) ?_ | refine ae rfl (aq rfl rfl rfl) ?_ | refine ae rfl (bz rfl rfl zG trivial (by first | rfl | assumption)) ?_ | refine ae rfl (ca rfl rfl zG trivial (by rfl)) ?_ | refine ae rfl (cg rfl rfl zG trivial (by simp)) ?_ | refine ae rfl (ax rfl rfl zG trivial (ci (by assumption) rfl)) ?_ | refine ae rfl (ax rfl rfl zG trivial (by assumption)) ?_ | refine ae rfl (cj rfl rfl zG trivial rfl (by assumption) rfl (by decide)) ?_ | refine ae rfl (cd rfl rfl zG (by rfl)) ?_
  try dsimp only [St.put]
  refine af rfl (bl rfl rfl rfl (uj6 p ht) ?_)
  refine aa rfl (ei rfl rfl) ?_
  refine av ?_
  dsimp only [St.put]
  refine hK7 _ ?_
  refine bd rfl (fun hc => ?_) (fun hc => ?_)
  ·have hp : gk p = false := by simpa using hc
   refine ar fun K8 hK8 => ?_
   refine aw ?_
   refine aa rfl (bf rfl (by constructor)) ?_
   refine av ?_
   dsimp only [St.put]
   refine hK8 _ ?_
   refine bc ?_
   refine bx rfl (by constructor) zN zS ?_
   exact vi (by simp [dg, ht, hp])
  ·have hp : gk p = true := by simpa using hc
   refine bi ?_
   refine hK6 _ ?_
   refine ar fun K9 hK9 => ?_
   refine aw ?_
   refine aa rfl (bf rfl (by constructor)) ?_
   refine av ?_
   dsimp only [St.put]
   refine hK9 _ ?_
   refine bc ?_
   refine bx rfl (by constructor) zN zS ?_
   exact vi (by simp [dg, ht, hp])
end Go.Proofs.YtgffhbbcpgdjjaaGreatDoor
namespace Go.Proofs.YtgffhbbcpgdjjaaGreatDoor
set_option maxRecDepth 10000
open Go.RowKit Go.AB
open Go.AB.Enc (cells)
open Go.PB (bg aj PlaceD bn bq bp ck az ak dc ce dr dv)
end Go.Proofs.YtgffhbbcpgdjjaaGreatDoor
namespace Go.Proofs.YtgffhbbcpgdjjaaGreatDoor
set_option maxRecDepth 10000
open Go.RowKit Go.AB
open Go.AB.Enc (cells)
open Go.PB (bg aj PlaceD bn bq bp ck az ak dc ce dr dv)
end Go.Proofs.YtgffhbbcpgdjjaaGreatDoor
namespace Go.Proofs.YtgffhbbcpgdjjaaGreatDoor
set_option maxRecDepth 10000
open Go.RowKit Go.AB
open Go.AB.Enc (cells)
open Go.PB (bg aj PlaceD bn bq bp ck az ak dc ce dr dv)
end Go.Proofs.YtgffhbbcpgdjjaaGreatDoor
namespace Go.AB
open Go Go.RowKit
open Go.AB.Enc (cells)
open Go.PB (bg aj PlaceD bn bq bp ck az ak dc ce)
/-! ### First and second readers change their places -/
/-! ### Errors that are missed -/
end Go.AB
namespace Go.AB
open Go Go.RowKit
open Go.AB.Enc (cells)
open Go.PB (bg aj PlaceD bn bq bp ck az ak dc ce dr dv)
def ry (R : Nat → Int) (c : Int) (l : List Int) : Int := l.foldl (fun n z => min n (R z.toNat)) c
def ll (R : Nat → Int) (n : Int) (l : List Int) : Nat → Int := l.foldl (fun R z => fun i => bif decide (i = z.toNat) then R z.toNat - n else R i) R
theorem uii (R : Nat → Int) (n : Int) : ll R n [] = R := rfl
theorem uly {R : Nat → Int} {c : Int} {l : List Int} {k : Nat} {z : Int} (h : l[k]? = some z) : ry R c (l.take (k + 1)) = min (ry R c (l.take k)) (R z.toNat) := by
 unfold ry; rw [List.take_add_one, h, Option.toList_some, List.foldl_append]; rfl
theorem uih {R : Nat → Int} {n : Int} {l : List Int} {k : Nat} {z : Int} (h : l[k]? = some z) : ll R n (l.take (k + 1)) = fun i => bif decide (i = z.toNat) then ll R n (l.take k) z.toNat - n else ll R n (l.take k) i := by
 unfold ll; rw [List.take_add_one, h, Option.toList_some, List.foldl_append]; rfl
theorem uo5 {p : ak} {j : Nat} {x : az} (hx : p.pages[j]? = some x) (R C : Nat → Int) : (cw p).alone R C j = ry R (C j) (dw p x) := by
 simp only [Net.alone, cw, hx, dw, ry]
 by_cases q1 : 0 ≤ x.fst <;> by_cases q2 : 0 ≤ x.snd
 ·simp [q1, q2, ov, show ((p.firsts.length : Int) + x.snd).toNat = p.firsts.length + x.snd.toNat by omega]
 ·simp [q1, q2, ov]
 ·simp [q1, q2, ov, show ((p.firsts.length : Int) + x.snd).toNat = p.firsts.length + x.snd.toNat by omega]
 ·simp [q1, q2, ov]
theorem umc {p : ak} (h : gh p) {j : Nat} {x : az} (hx : p.pages[j]? = some x) (R : Nat → Int) (n : Int) : (cw p).lessR R j n = ll R n (dw p x) := by
 have hp := pageB_true.1 (h.page j x hx)
 have h1 := hp.fst
 have h2 := hp.snd
 funext i
 simp only [Net.lessR, Net.by, cw, hx, dw, ll]
 by_cases q1 : 0 ≤ x.fst <;> by_cases q2 : 0 ≤ x.snd
 ·have e2 : ((p.firsts.length : Int) + x.snd).toNat = p.firsts.length + x.snd.toNat := by omega
  have hne : ¬ p.firsts.length + x.snd.toNat = x.fst.toNat := by omega
  rw [decide_eq_true q1, decide_eq_true q2]
  simp only [cond_true, List.cons_append, List.nil_append, List.foldl_cons, List.foldl_nil, e2, Option.some.injEq]
  by_cases z1 : i = x.fst.toNat
  ·have z2 : ¬ i = p.firsts.length + x.snd.toNat := by omega
   simp [z1.symm, z2, Ne.symm z2]
  ·by_cases z2 : i = p.firsts.length + x.snd.toNat
   ·simp [z1, Ne.symm z1, z2, hne, Ne.symm hne]
   ·simp [z1, Ne.symm z1, z2, Ne.symm z2]
 ·rw [decide_eq_true q1, decide_eq_false q2]
  simp only [cond_true, cond_false, List.append_nil, List.foldl_cons, List.foldl_nil, Option.some.injEq]
  by_cases z1 : i = x.fst.toNat
  ·simp [z1]
  ·simp [z1, Ne.symm z1]
 ·have e2 : ((p.firsts.length : Int) + x.snd).toNat = p.firsts.length + x.snd.toNat := by omega
  rw [decide_eq_false q1, decide_eq_true q2]
  simp only [cond_true, cond_false, List.nil_append, List.foldl_cons, List.foldl_nil, e2, Option.some.injEq]
  by_cases z2 : i = p.firsts.length + x.snd.toNat
  ·simp [z2]
  ·simp [z2, Ne.symm z2]
 ·rw [decide_eq_false q1, decide_eq_false q2]
  simp
theorem uba {p : ak} {R C : Nat → Int} (hB : Bd p R C) {j : Nat} {n : Int} (h0 : 0 ≤ n) (hn : n ≤ (cw p).alone R C j) : Bd p ((cw p).lessR R j n) (fa C j) := by
 refine ⟨fun i => ?_, fun k => ?_, hB.nr, hB.np⟩
 ·unfold Net.lessR
  cases hb : (cw p).by j i
  ·exact hB.r i
  ·have h1 := (Net.le_alone.1 hn).2 i hb
   have h2 := hB.r i
   show -1000000 ≤ R i - n ∧ R i - n ≤ 1000000
   omega
 ·unfold fa
  cases decide (k = j)
  ·exact hB.c k
  ·exact ⟨Int.le_refl _, by show (0 : Int) ≤ 1000000; omega⟩
/-- what is above has been looked at -/
def FromTop (p : ak) (R C : Nat → Int) (j : Nat) (n : Int) : Prop := (cw p).pick R C j ≤ n ∧ n ≤ (cw p).alone R C j ∧ ∀ m, n < m → m ≤ (cw p).alone R C j → ¬ (cw p).most R C ≤ m + (cw p).most ((cw p).lessR R j m) (fa C j)
theorem FromTop.start {p : ak} {R C : Nat → Int} {j : Nat} (h : (cw p).Pick R C j ((cw p).pick R C j)) : FromTop p R C j ((cw p).alone R C j) := ⟨h.le, Int.le_refl _, fun m h1 h2 => by omega⟩
theorem FromTop.stop {p : ak} {R C : Nat → Int} {j : Nat} {n : Int} (h : (cw p).Pick R C j ((cw p).pick R C j)) (k : FromTop p R C j n) (hs : (cw p).most R C ≤ n + (cw p).most ((cw p).lessR R j n) (fa C j)) : n = (cw p).pick R C j :=
 Net.Pick.uniq ⟨Int.le_trans h.nn k.1, k.2.1, hs, k.2.2⟩ h
theorem FromTop.down {p : ak} {R C : Nat → Int} {j : Nat} {n : Int} (h : (cw p).Pick R C j ((cw p).pick R C j)) (k : FromTop p R C j n) (hs : ¬ (cw p).most R C ≤ n + (cw p).most ((cw p).lessR R j n) (fa C j)) : FromTop p R C j (n - 1) := by
 refine ⟨?_, by have := k.2.1; omega, fun m h1 h2 => ?_⟩
 ·have h1 := k.1
  by_cases e : n = (cw p).pick R C j
  ·subst e
   exact absurd h.ok hs
  ·omega
 ·by_cases e : m = n
  ·subst e; exact hs
  ·exact k.2.2 m (by omega) h2
end Go.AB
namespace Go.AB
open Go Go.RowKit
open Go.AB.Enc (cells)
section
variable {P : Program} {o : Oper} {st : St} {K : St → Prop}
end
end Go.AB
namespace Go.AB
open Go Go.RowKit
open Go.AB.Enc (cells)
variable {ρ : Option Nat}
section
variable {P : Program} {Q : Exit → St → Prop} {st : St}
end
section
variable {P : Program} {o : Oper} {st : St} {K : St → Prop}
end
end Go.AB
namespace Go.AB
open Go Go.RowKit
/-- What stands in a slot is known less well. -/
theorem x7 {ρ : Option Nat} {P : Program} {Q : Exit → St → Prop} {st : St} {x : Code} (i : Nat) {c : C} (c' : C) (h0 : st.at i = c) (hw : Wk c c') (h : AW ρ P x Q { st with r := (i, c') :: st.r }) : AW ρ P x Q st := by
 intro E w a hs
 have hp := hs.at i
 rw [h0] at hp
 refine h E w a ⟨hs.d, hs.sz, fun j v hj => ?_, hs.g⟩
 simp only [cy]
 cases hb : Nat.beq i j
 ·exact hs.t j v hj
 ·have hij := Nat.eq_of_beq_eq_true hb
  subst hij
  have hv : a.tmps.getD i undef = v := by rw [Array.getD_eq_getD_getElem?, hj]; rfl
  rw [hv] at hp
  exact hw.2 _ _ _ hp
end Go.AB
namespace Go.AB
open Go Go.RowKit
open Go.AB.Enc (cells)
open Go.PB (bg aj PlaceD bn bq bp ck az ak dc ce dr dv)
theorem uni {l : List Int} {k : Nat} {z : Int} (h : l[k]? = some z) : (dx l)[k]? = some (.v (.int .i64 z)) := by
 have e : dx l = l.map fun y => .v (.int .i64 y) := by
  clear h
  induction l with
  | nil => rfl
  | cons y l ih =>
   have h1 : dx (y :: l) = cells y ++ dx l := by simp [dx]
   rw [h1, ih]; rfl
 rw [e, List.getElem?_map, h]; rfl
end Go.AB
namespace Go.Proofs.YtgffhbbcpgdjjaaGreatDoor
set_option maxRecDepth 10000
open Go.RowKit Go.AB
open Go.AB.Enc (cells)
open Go.PB (bg aj PlaceD bn bq bp ck az ak dc ce dr dv)
theorem zf {p : ak} (h : gh p) {j : Nat} {x : az} (hx : p.pages[j]? = some x) {k : Nat} (hk : k < (dw p x).length) : ∃ zn : Nat, (dw p x)[k]? = some (zn : Int) ∧ zn < c4 p := by
 have hp := pageB_true.1 (h.page j x hx)
 have h1 := hp.fst
 have h2 := hp.snd
 obtain ⟨z, hz⟩ : ∃ z, (dw p x)[k]? = some z := ⟨_, List.getElem?_eq_getElem hk⟩
 have hm := List.mem_of_getElem? hz
 have hb : 0 ≤ z ∧ z < (c4 p : Int) := by
  unfold dw at hm
  unfold c4
  rw [List.mem_append] at hm
  rcases hm with hm | hm
  ·by_cases q : 0 ≤ x.fst
   ·rw [decide_eq_true q, cond_true, List.mem_singleton] at hm; omega
   rw [decide_eq_false q] at hm; cases hm
  by_cases q : 0 ≤ x.snd
  ·rw [decide_eq_true q, cond_true, List.mem_singleton] at hm; omega
  rw [decide_eq_false q] at hm; cases hm
 exact ⟨z.toNat, by rw [hz]; congr 1; omega, by omega⟩
end Go.Proofs.YtgffhbbcpgdjjaaGreatDoor
namespace Go.AB
open Go Go.RowKit
open Go.AB.Enc (cells)
open Go.PB (bg aj PlaceD bn bq bp ck az ak dc ce dr dv)
theorem uge (r : Int) (s i : Nat) : r * ((s / 2 ^ i % 2 : Nat) : Int) = bif s.testBit i then r else 0 := by
 have h2 : s / 2 ^ i % 2 < 2 := Nat.mod_lt _ (by omega)
 cases hb : s.testBit i
 ·have : s / 2 ^ i % 2 = 0 := by
   have : ¬ ((s / 2 ^ i % 2 : Nat) : Int) = 1 := fun e => by
    have := bit_eq.1 e
    rw [hb] at this; cases this
   omega
  rw [this]; simp
 have : s / 2 ^ i % 2 = 1 := by have := bit_eq.2 hb; omega
 rw [this]; simp
theorem uou (s i : Nat) : decide (((s / 2 ^ i % 2 : Nat) : Int) = 1) = s.testBit i := by
 rw [Bool.eq_iff_iff, decide_eq_true_eq]
 exact bit_eq
theorem ujz {p : ak} (h : gh p) {j : Nat} {x : az} (hx : p.pages[j]? = some x) {z : Int} (hz : z ∈ dw p x) : ∃ zn : Nat, z = (zn : Int) ∧ zn ≤ 6 := by
 obtain ⟨k, hk⟩ := List.getElem?_of_mem hz
 obtain ⟨zn, h1, h2⟩ := ujy h hx (List.getElem?_eq_some_iff.1 hk).1
 rw [hk] at h1
 cases h1
 exact ⟨zn, rfl, h2⟩
theorem wl {p : ak} {j : Nat} {x : az} (hx : p.pages[j]? = some x) : (p.pages.map (dw p))[j]? = some (dw p x) := by rw [List.getElem?_map, hx]; rfl
end Go.AB
namespace Go.Proofs.YtgffhbbcpgdjjaaGreatDoor
set_option maxRecDepth 10000
open Go.RowKit Go.AB
open Go.AB.Enc (cells)
open Go.PB (bg aj PlaceD bn bq bp ck az ak dc ce dr dv)
theorem ukx (k s : Nat) (hk : k ≤ 64) (hs : s ≤ 1000) : Pure Tryz.prog 74 [.v (.int .i64 (k : Int)), .elem [.v (.int .i64 (s : Int))]] (.v (.bool (s.testBit k))) := by
 refine di Tryz.func74 rfl (fun m => .v) fun G nx => ?_
 simp only [Tryz.ntmps74, List.length_cons, List.length_nil, Nat.reduceAdd, Nat.reduceSub]
 refine cp fun hlt => ?_
 dsimp only at hlt
 refine yS fun _ K1 => ?_
 refine yR ?_
 refine yA rfl rfl ?_
 refine yN ?_
 dsimp only [St.put]
 refine K1 _ ?_
 refine yS fun _ K2 => ?_
 refine yR ?_
 refine yL rfl rfl rfl ?_
 refine yM rfl rfl ?_
 refine aa rfl (zy (m := s) (n := k) rfl rfl rfl hk (by show (s : Int) ≤ 9223372036854775807; omega) (by decide)) ?_
 refine aa rfl (z6 (m := s / 2 ^ k) rfl rfl rfl (Nat.lt_of_le_of_lt (Nat.div_le_self _ _) (by show s < 2 ^ 64; omega)) (by decide)) ?_
 refine aa rfl (f3 rfl rfl rfl) ?_
 refine yA rfl rfl ?_
 refine yN ?_
 dsimp only [St.put]
 refine K2 _ ?_
 refine bc ?_
 refine bx rfl (by constructor) zN zS ?_
 exact vb (uou s k)
set_option maxHeartbeats 1000000 in
theorem uc6 (p : ak) (R C : Nat → Int) (s : Nat) (h : gh p) (hB : Bd p R C) (hs : s ≤ 1000) : Pure Tryz.prog 56 [val (gq p R C), .v (.int .i64 (s : Int))] (.v (.int .i64 ((cw p).f R C fun i => s.testBit i))) := by
 refine di Tryz.func56 rfl (fun m => .v) fun G nx => ?_
 simp only [Tryz.ntmps56, List.length_cons, List.length_nil, Nat.reduceAdd, Nat.reduceSub]
 refine cp fun hlt => ?_
 dsimp only at hlt
 have hnr := hB.nr
 have hnp := hB.np
 have hl1 := ju (c4 p) R
 have hl2 := ju p.pages.length C
 refine yS fun _ K1 => ?_
 refine yR ?_
 try dsimp only [St.put]
 refine yB rfl rfl rfl ?_
 try dsimp only [St.put]
 refine yB rfl rfl rfl ?_
 refine yA rfl rfl ?_
 refine yN ?_
 dsimp only [St.put]
 refine K1 _ ?_
 refine yS fun _ K2 => ?_
 refine yR ?_
 refine yA rfl rfl ?_
 refine yN ?_
 dsimp only [St.put]
 refine K2 _ ?_
 refine yS fun _ K3 => ?_
 refine yS fun _ K4 => ?_
 refine yR ?_
 refine yF rfl rfl rfl rfl ?_
 refine yL rfl rfl rfl ?_
 refine aa rfl (bj rfl rfl (List.length_map _)) ?_
 refine yM rfl rfl ?_
 refine yN ?_
 dsimp only [St.put]
 refine K4 _ ?_
 refine cb ?_
 refine dh 14 ?_
 refine zQ ?_
 refine du (G) zX ?_
 dsimp only
 refine dz (X := Nat) (fun i => i ≤ c4 p) (fun i => c4 p - i) (fun i => [(5, .v (.int .i64 (fR R (fun i => s.testBit i) i))), (6, .any), (7, .any), (13, .v (.int .i64 (i : Int)))]) (fun i G' => G') 0 rfl ?_ ?_ (fun _ _ h => h) ?_ ?_ ?_
 ·exact Nat.zero_le _
 ·exact zF
 ·rintro i hI
  exact zL
 ·exact fun _ _ _ _ h => .inl h
 rintro i hI
 dsimp only at hI ⊢
 refine yS fun _ K5 => ?_
 refine yR ?_
 refine aa rfl (c5 rfl rfl rfl) ?_
 refine yN ?_
 dsimp only [St.put]
 refine K5 _ ?_
 refine yS fun _ K6 => ?_
 refine bd rfl (fun hc => ?_) (fun hc => ?_)
 ·replace hc := of_decide_eq_true hc
  have hi : i < c4 p := by
   have : (i : Int) < ((dd (c4 p) R).length : Int) := hc
   rw [hl1] at this
   omega
  have hRi := nd R hi
  have hbd := uas hB (fun i => s.testBit i) i (by omega)
  have hrb := hB.r i
  have hmb : -1000000 ≤ R i * ((s / 2 ^ i % 2 : Nat) : Int) ∧ R i * ((s / 2 ^ i % 2 : Nat) : Int) ≤ 1000000 := by
   rw [uge]
   cases s.testBit i
   ·show -1000000 ≤ (0 : Int) ∧ (0 : Int) ≤ 1000000
    omega
   exact hrb
  refine bi ?_
  refine K6 _ ?_
  refine yS fun _ K7 => ?_
  refine cb ?_
  refine yS fun _ K8 => ?_
  refine yR ?_
  refine yM rfl rfl ?_
  refine aa rfl (bk rfl rfl rfl rfl (bu (by assumption)) (Enc.len _)) ?_
  refine yL rfl rfl rfl ?_
  refine yA rfl rfl ?_
  refine yA rfl rfl ?_
  refine yN ?_
  dsimp only [St.put]
  refine K8 _ ?_
  refine yR ?_
  refine yM rfl rfl ?_
  refine yM rfl rfl ?_
  refine yL rfl rfl rfl ?_
  refine yM rfl rfl ?_
  refine aa rfl (zy (m := s) (n := i) rfl rfl rfl (by show i ≤ 64; omega) (by show (s : Int) ≤ 9223372036854775807; omega) (by decide)) ?_
  refine aa rfl (z6 (m := s / 2 ^ i) rfl rfl rfl (Nat.lt_of_le_of_lt (Nat.div_le_self _ _) (by show s < 2 ^ 64; omega)) (by decide)) ?_
  refine aa rfl (zz rfl rfl rfl (by omega)) ?_
  refine aa rfl (cm rfl rfl rfl (by omega)) ?_
  refine yA rfl rfl ?_
  refine yN ?_
  dsimp only [St.put]
  refine K7 _ ?_
  refine yR ?_
  refine aa rfl (cm rfl rfl rfl (by omega)) ?_
  refine yM rfl rfl ?_
  refine yN ?_
  dsimp only [St.put]
  rw [uge, ← unn R (fun i => s.testBit i) i]
  exact ⟨i + 1, by omega, by omega, ⟨⟨rfl, rfl⟩, zF, zB, zN, zX⟩⟩
 replace hc := of_decide_eq_false hc
 obtain rfl : i = c4 p := by
  have : ¬ (i : Int) < ((dd (c4 p) R).length : Int) := hc
  rw [hl1] at this
  omega
 have hfr := uas hB (fun i => s.testBit i) _ (Nat.le_refl (c4 p))
 obtain ⟨FR, hFR⟩ : ∃ FR, fR R (fun i => s.testBit i) (c4 p) = FR := ⟨_, rfl⟩
 rw [hFR] at hfr
 refine dq ?_
 refine K3 _ ?_
 refine yS fun _ K9 => ?_
 refine yS fun _ K10 => ?_
 refine yR ?_
 refine yF rfl rfl rfl rfl ?_
 refine yL rfl rfl rfl ?_
 refine aa rfl (bj rfl rfl (List.length_map _)) ?_
 refine yM rfl rfl ?_
 refine yN ?_
 dsimp only [St.put]
 rw [hFR, show FR = FR + fC p C (fun i => s.testBit i) 0 by show FR = FR + 0; omega]
 refine K10 _ ?_
 refine cb ?_
 refine dh 31 ?_
 refine zQ ?_
 refine du (G) zX ?_
 dsimp only
 refine dz (X := Nat) (fun j => j ≤ p.pages.length) (fun j => p.pages.length - j) (fun j => [(5, .v (.int .i64 (FR + fC p C (fun i => s.testBit i) j))), (8, .any), (9, .any), (30, .v (.int .i64 (j : Int)))]) (fun j G' => G') 0 rfl ?_ ?_ (fun _ _ h => h) ?_ ?_ ?_
 ·exact Nat.zero_le _
 ·exact zF
 ·rintro j hI
  exact zL
 ·exact fun _ _ _ _ h => .inl h
 rintro j hJ
 dsimp only at hJ ⊢
 refine yS fun _ K11 => ?_
 refine yR ?_
 refine aa rfl (c5 rfl rfl rfl) ?_
 refine yN ?_
 dsimp only [St.put]
 refine K11 _ ?_
 refine yS fun _ K12 => ?_
 refine bd rfl (fun hc => ?_) (fun hc => ?_)
 ·replace hc := of_decide_eq_true hc
  have hj : j < p.pages.length := by
   have : (j : Int) < ((dd p.pages.length C).length : Int) := hc
   rw [hl2] at this
   omega
  obtain ⟨x, hx⟩ : ∃ x, p.pages[j]? = some x := d8 hj
  have hrx := wl hx
  have hCj := nd C hj
  have hcb := hB.c j
  have hfc := ufj hB (fun i => s.testBit i) j (by omega)
  have hhit := um7 hx fun i => s.testBit i
  refine bi ?_
  refine K12 _ ?_
  refine yS fun _ K13 => ?_
  refine cb ?_
  refine yS fun _ K14 => ?_
  refine yR ?_
  refine yM rfl rfl ?_
  refine aa rfl (bk rfl rfl rfl rfl (bu (by assumption)) (Enc.len _)) ?_
  refine yL rfl rfl rfl ?_
  refine yA rfl rfl ?_
  refine yA rfl rfl ?_
  refine yN ?_
  dsimp only [St.put]
  refine K14 _ ?_
  refine yS fun _ K15 => ?_
  refine yR ?_
  refine yF rfl rfl rfl rfl ?_
  refine yL rfl rfl rfl ?_
  refine yM rfl rfl ?_
  refine aa rfl (bk rfl rfl rfl rfl (bu (by assumption)) (Enc.len _)) ?_
  refine yL rfl rfl rfl ?_
  refine aa rfl (pk rfl rfl) ?_
  try dsimp only [St.put]
  refine af rfl (bl rfl rfl rfl (yg (dw p x) (fun z => s.testBit z.toNat) _ _ fun z hz => by obtain ⟨zn, rfl, h6⟩ := ujz h hx hz; exact ukx zn s (by omega) hs) ?_)
  refine aa rfl (ei rfl rfl) ?_
  refine yN ?_
  dsimp only [St.put]
  refine K15 _ ?_
  refine bd rfl (fun hc => ?_) (fun hc => ?_)
  ·have hhn : (cw p).hit (fun i => s.testBit i) j = false := by rw [hhit]; simpa using hc
   refine yR ?_
   refine yM rfl rfl ?_
   refine yM rfl rfl ?_
   refine aa rfl (cm rfl rfl rfl (by omega)) ?_
   refine yA rfl rfl ?_
   refine yN ?_
   dsimp only [St.put]
   refine K13 _ ?_
   refine yR ?_
   refine aa rfl (cm rfl rfl rfl (by omega)) ?_
   refine yM rfl rfl ?_
   refine yN ?_
   dsimp only [St.put]
   have e := ufi p C (fun i => s.testBit i) j
   first
   | (have z : (cw p).hit (fun i => s.testBit i) j = true := hhy
      rw [z, cond_true, Int.add_zero] at e
      rw [← e]
      exact ⟨j + 1, by omega, by omega, ⟨⟨rfl, rfl⟩, zF, zB, zN, zX⟩⟩)
   | (have z : (cw p).hit (fun i => s.testBit i) j = false := hhn
      rw [z, cond_false] at e
      rw [Int.add_assoc, ← e]
      exact ⟨j + 1, by omega, by omega, ⟨⟨rfl, rfl⟩, zF, zB, zN, zX⟩⟩)
  have hhy : (cw p).hit (fun i => s.testBit i) j = true := by rw [hhit]; simpa using hc
  refine bi ?_
  refine K13 _ ?_
  refine yR ?_
  refine aa rfl (cm rfl rfl rfl (by omega)) ?_
  refine yM rfl rfl ?_
  refine yN ?_
  dsimp only [St.put]
  have e := ufi p C (fun i => s.testBit i) j
  first
  | (have z : (cw p).hit (fun i => s.testBit i) j = true := hhy
     rw [z, cond_true, Int.add_zero] at e
     rw [← e]
     exact ⟨j + 1, by omega, by omega, ⟨⟨rfl, rfl⟩, zF, zB, zN, zX⟩⟩)
  | (have z : (cw p).hit (fun i => s.testBit i) j = false := hhn
     rw [z, cond_false] at e
     rw [Int.add_assoc, ← e]
     exact ⟨j + 1, by omega, by omega, ⟨⟨rfl, rfl⟩, zF, zB, zN, zX⟩⟩)
 replace hc := of_decide_eq_false hc
 obtain rfl : j = p.pages.length := by
  have : ¬ (j : Int) < ((dd p.pages.length C).length : Int) := hc
  rw [hl2] at this
  omega
 refine dq ?_
 refine K9 _ ?_
 refine yS fun _ K16 => ?_
 refine yR ?_
 refine yM rfl rfl ?_
 refine yA rfl rfl ?_
 refine yN ?_
 dsimp only [St.put]
 refine K16 _ ?_
 refine bc ?_
 refine bx rfl (by constructor) zN zS ?_
 exact vi (by rw [ufe, hFR])
set_option maxHeartbeats 1000000 in
theorem t8 (p : ak) (R C : Nat → Int) (h : gh p) (hB : Bd p R C) : Pure Tryz.prog 45 [val (gq p R C)] (.v (.int .i64 ((cw p).most R C))) := by
 refine di Tryz.func45 rfl (fun m => .v) fun G nx => ?_
 simp only [Tryz.ntmps45, List.length_cons, List.length_nil, Nat.reduceAdd, Nat.reduceSub]
 refine cp fun hlt => ?_
 dsimp only at hlt
 have hnr := hB.nr
 have hl1 := ju (c4 p) R
 have h64 : 2 ^ c4 p ≤ 2 ^ 6 := Nat.pow_le_pow_right (by omega) hnr
 have hpos : 0 < 2 ^ c4 p := Nat.two_pow_pos _
 obtain ⟨g, hg⟩ : ∃ g : Nat → Int, (fun s => (cw p).f R C fun i => s.testBit i) = g := ⟨_, rfl⟩
 have hgs : ∀ s : Nat, (cw p).f R C (fun i => s.testBit i) = g s := fun s => congrFun hg s
 have hP : ∀ s : Nat, s ≤ 1000 → Pure Tryz.prog 56 [val (gq p R C), .v (.int .i64 (s : Int))] (.v (.int .i64 (g s))) := fun s hs => by
  have := uc6 p R C s h hB hs
  rwa [hgs] at this
 have hgb : ∀ s, -6000000 ≤ g s ∧ g s ≤ 14000000 := fun s => by rw [← hgs]; exact f_bd hB _
 refine yS fun _ K1 => ?_
 refine yR ?_
 try dsimp only [St.put]
 refine yB rfl rfl rfl ?_
 refine yA rfl rfl ?_
 refine yN ?_
 dsimp only [St.put]
 refine K1 _ ?_
 refine yS fun _ K2 => ?_
 refine yR ?_
 try dsimp only [St.put]
 refine ae rfl (c := val (gq p R C)) (jb (cs := cells (gq p R C)) rfl rfl (show 3 ≤ 3 by decide)) ?_
 try dsimp only [St.put]
 refine af rfl (bl rfl rfl rfl (hP 0 (by omega)) ?_)
 refine yA rfl rfl ?_
 refine yN ?_
 dsimp only [St.put]
 refine K2 _ ?_
 refine yS fun _ K3 => ?_
 refine yS fun _ K4 => ?_
 refine yR ?_
 refine yF rfl rfl rfl rfl ?_
 refine yL rfl rfl rfl ?_
 refine aa rfl (bj rfl rfl (List.length_map _)) ?_
 refine aa rfl (uds (n := (dd (c4 p) R).length) rfl rfl rfl (by rw [hl1]; omega)) ?_
 refine yM rfl rfl ?_
 refine yN ?_
 dsimp only [St.put]
 refine K4 _ ?_
 refine cb ?_
 refine dh 12 ?_
 refine zQ ?_
 refine du (G) zX ?_
 dsimp only
 refine dz (X := Nat) (fun s => s ≤ 2 ^ c4 p) (fun s => 2 ^ c4 p - s) (fun s => [(3, .v (.int .i64 (ma g s))), (4, .any), (11, .v (.int .i64 (s : Int)))]) (fun s G' => G') 0 rfl ?_ ?_ (fun _ _ h => h) ?_ ?_ ?_
 ·exact Nat.zero_le _
 ·exact zF
 ·rintro s hI
  exact zL
 ·exact fun _ _ _ _ h => .inl h
 rintro s hI
 dsimp only at hI ⊢
 refine yS fun _ K5 => ?_
 refine yR ?_
 refine aa rfl (c5 rfl rfl rfl) ?_
 refine yN ?_
 dsimp only [St.put]
 refine K5 _ ?_
 refine yS fun _ K6 => ?_
 refine bd rfl (fun hc => ?_) (fun hc => ?_)
 ·replace hc := of_decide_eq_true hc
  have hlt : s < 2 ^ c4 p := by
   have : (s : Int) < ((2 ^ (dd (c4 p) R).length : Nat) : Int) := hc
   rw [hl1] at this
   omega
  have hmb := ud1 hgb s
  have hgb1 := hgb s
  refine bi ?_
  refine K6 _ ?_
  refine yS fun _ K7 => ?_
  refine cb ?_
  refine yS fun _ K8 => ?_
  refine yR ?_
  refine yM rfl rfl ?_
  refine yA rfl rfl ?_
  refine yN ?_
  dsimp only [St.put]
  refine K8 _ ?_
  refine yR ?_
  refine yM rfl rfl ?_
  try dsimp only [St.put]
  refine ae rfl (c := val (gq p R C)) (jb (cs := cells (gq p R C)) rfl rfl (show 3 ≤ 3 by decide)) ?_
  refine yM rfl rfl ?_
  try dsimp only [St.put]
  refine af rfl (bl rfl rfl rfl (hP s (by omega)) ?_)
  refine aa rfl (udu rfl rfl rfl rfl) ?_
  refine yA rfl rfl ?_
  refine yN ?_
  dsimp only [St.put]
  refine K7 _ ?_
  refine yR ?_
  refine aa rfl (cm rfl rfl rfl (by omega)) ?_
  refine yM rfl rfl ?_
  refine yN ?_
  dsimp only [St.put]
  rw [show min (ma g s) (g s) = ma g (s + 1) from rfl]
  exact ⟨s + 1, by omega, by omega, ⟨⟨rfl, rfl⟩, zF, zB, zN, zX⟩⟩
 replace hc := of_decide_eq_false hc
 obtain rfl : s = 2 ^ c4 p := by
  have : ¬ (s : Int) < ((2 ^ (dd (c4 p) R).length : Nat) : Int) := hc
  rw [hl1] at this
  omega
 refine dq ?_
 refine K3 _ ?_
 refine yS fun _ K9 => ?_
 refine yR ?_
 refine yM rfl rfl ?_
 refine yA rfl rfl ?_
 refine yN ?_
 dsimp only [St.put]
 refine K9 _ ?_
 refine bc ?_
 refine bx rfl (by constructor) zN zS ?_
 exact vi (by unfold Net.most; rw [hg]; rfl)
theorem uc7 (p : ak) (R C : Nat → Int) (j : Nat) (x : az) (h : gh p) (hx : p.pages[j]? = some x) : Pure Tryz.prog 43 [val (gq p R C), .v (.int .i64 (j : Int))] (.v (.int .i64 ((cw p).alone R C j))) := by
 refine di Tryz.func43 rfl (fun m => .v) fun G nx => ?_
 simp only [Tryz.ntmps43, List.length_cons, List.length_nil, Nat.reduceAdd, Nat.reduceSub]
 refine cp fun hlt => ?_
 dsimp only at hlt
 have hjl := (List.getElem?_eq_some_iff.1 hx).1
 have hCj := nd C hjl
 have hrx := wl hx
 have hn1 := h.nf
 have hn2 := h.ns
 have hnr : c4 p = p.firsts.length + p.seconds.length := rfl
 have hrl := zg p x
 refine yS fun _ K1 => ?_
 refine yR ?_
 try dsimp only [St.put]
 refine yB rfl rfl rfl ?_
 refine yA rfl rfl ?_
 refine yN ?_
 dsimp only [St.put]
 refine K1 _ ?_
 refine yS fun _ K2 => ?_
 refine yR ?_
 refine yF rfl rfl rfl rfl ?_
 refine yL rfl rfl rfl ?_
 refine yM rfl rfl ?_
 refine aa rfl (bk rfl rfl rfl rfl (bu (by assumption)) (Enc.len _)) ?_
 refine yL rfl rfl rfl ?_
 refine yA rfl rfl ?_
 refine yN ?_
 dsimp only [St.put]
 refine K2 _ ?_
 refine yS fun _ K3 => ?_
 refine yS fun _ K4 => ?_
 refine yR ?_
 refine yF rfl rfl rfl rfl ?_
 refine yL rfl rfl rfl ?_
 refine yM rfl rfl ?_
 refine aa rfl (bk rfl rfl rfl rfl (bu (by assumption)) (Enc.len _)) ?_
 refine yL rfl rfl rfl ?_
 refine aa rfl (bj rfl rfl (List.length_map _)) ?_
 refine yM rfl rfl ?_
 refine yN ?_
 dsimp only [St.put]
 refine K4 _ ?_
 refine cb ?_
 refine dh 20 ?_
 refine zQ ?_
 refine du (G) zX ?_
 dsimp only
 refine dz (X := Nat) (fun k => k ≤ (dw p x).length) (fun k => (dw p x).length - k) (fun k => [(5, .v (.int .i64 (ry R (C j) ((dw p x).take k)))), (7, .any), (19, .v (.int .i64 (k : Int)))]) (fun k G' => G') 0 rfl ?_ ?_ (fun _ _ h => h) ?_ ?_ ?_
 ·exact Nat.zero_le _
 ·exact zF
 ·rintro k hI
  exact zL
 ·exact fun _ _ _ _ h => .inl h
 rintro k hI
 dsimp only at hI ⊢
 refine yS fun _ K5 => ?_
 refine yR ?_
 refine aa rfl (c5 rfl rfl rfl) ?_
 refine yN ?_
 dsimp only [St.put]
 refine K5 _ ?_
 refine yS fun _ K6 => ?_
 refine bd rfl (fun hc => ?_) (fun hc => ?_)
 ·replace hc := of_decide_eq_true hc
  obtain ⟨zn, hz, hz6⟩ := zf h hx (k := k) (by omega)
  have hRz := nd R hz6
  refine bi ?_
  refine K6 _ ?_
  refine yS fun _ K7 => ?_
  refine cb ?_
  refine yS fun _ K8 => ?_
  refine yR ?_
  refine aa rfl (bk rfl rfl rfl rfl (bu (by assumption)) (Enc.len _)) ?_
  refine yL rfl rfl rfl ?_
  refine yA rfl rfl ?_
  refine yN ?_
  dsimp only [St.put]
  refine K8 _ ?_
  refine yR ?_
  refine yM rfl rfl ?_
  refine yF rfl rfl rfl rfl ?_
  refine yL rfl rfl rfl ?_
  refine yM rfl rfl ?_
  refine aa rfl (bk rfl rfl rfl rfl (bu (by assumption)) (Enc.len _)) ?_
  refine yL rfl rfl rfl ?_
  refine aa rfl (udu rfl rfl rfl rfl) ?_
  refine yA rfl rfl ?_
  refine yN ?_
  dsimp only [St.put]
  refine K7 _ ?_
  refine yR ?_
  refine aa rfl (cm rfl rfl rfl (by omega)) ?_
  refine yM rfl rfl ?_
  refine yN ?_
  dsimp only [St.put]
  have e := uly (R := R) (c := C j) hz
  rw [Int.toNat_natCast] at e
  rw [← e]
  exact ⟨k + 1, by omega, by omega, ⟨⟨rfl, rfl⟩, zF, zB, zN, zX⟩⟩
 replace hc := of_decide_eq_false hc
 refine dq ?_
 refine K3 _ ?_
 refine yS fun _ K9 => ?_
 refine yR ?_
 refine yM rfl rfl ?_
 refine yA rfl rfl ?_
 refine yN ?_
 dsimp only [St.put]
 refine K9 _ ?_
 refine bc ?_
 refine bx rfl (by constructor) zN zS ?_
 exact vi (by rw [g9 (show (dw p x).length ≤ k by omega), uo5 hx])
end Go.Proofs.YtgffhbbcpgdjjaaGreatDoor
namespace Go.AB
open Go Go.RowKit
/-- what an operation waits for -/
def qt (o : Oper) : List Nat := (o.after.toList.filter fun e => Region.binds .any e).map (·.on)
def pj (l : List Bool) : Nat := (l.filter fun b => !b).length
theorem zr : ∀ {l : List Bool} {i : Nat}, l[i]? = some false → pj (l.set i true) + 1 = pj l
 | [], i, h => by simp at h
 | b :: l, 0, h => by
  simp only [List.getElem?_cons_zero, Option.some.injEq] at h
  subst h
  simp [pj]
 | b :: l, i + 1, h => by
  simp only [List.getElem?_cons_succ] at h
  have ih := zr h
  unfold pj at ih ⊢
  cases b
  ·simp only [List.set_cons_succ, List.filter_cons, Bool.not_false, if_true, List.length_cons]; omega
  ·simp only [List.set_cons_succ, List.filter_cons, Bool.not_true, Bool.false_eq_true, if_false]; omega
theorem ulh {l : List Bool} (h : pj l = 0) (i : Nat) : l[i]? ≠ some false := fun e => by
 have := zr e
 omega
theorem ujx {ol : List Oper} {l : List Bool} {i : Nat} (h : i ∈ Region.ready .any ol.toArray l.toArray) (hl : l.length = ol.length) : ∃ o, ol[i]? = some o ∧ l[i]? = some false ∧ ∀ j ∈ qt o, l[j]? = some true := by
 unfold Region.ready at h
 simp only [List.mem_filter, List.mem_range, List.size_toArray, Bool.and_eq_true, Bool.not_eq_true'] at h
 obtain ⟨h1, h2, h3⟩ := h
 obtain ⟨o, ho⟩ : ∃ o, ol[i]? = some o := ⟨_, List.getElem?_eq_getElem h1⟩
 refine ⟨o, ho, ?_, fun j hj => ?_⟩
 ·have e := List.getElem?_eq_getElem (l := l) (i := i) (by omega)
  rw [Array.getD_eq_getD_getElem?, List.getElem?_toArray, e] at h2
  rw [e, ← h2]; rfl
 ·rw [List.getElem?_toArray, ho] at h3
  simp only [Option.map_some, Option.getD_some] at h3
  rw [← Array.all_toList, List.all_eq_true] at h3
  unfold qt at hj
  obtain ⟨e, he, rfl⟩ := List.mem_map.1 hj
  obtain ⟨he1, he2⟩ := List.mem_filter.1 he
  have := h3 e he1
  rw [he2, Bool.not_true, Bool.false_or, Array.getD_eq_getD_getElem?, List.getElem?_toArray] at this
  cases hb : l[e.on]? with
  | none => rw [hb] at this; cases this
  | some b => rw [hb] at this; rw [show b = true from this]
section
variable {P : Program} {ol : List Oper} {K : St → Prop} {late : Nat → Bool}
/-- whether each operation waits only for earlier ones -/
def fwdB (ol : List Oper) : Bool := (List.range ol.length).all fun i => ((ol[i]?).map fun o => (qt o).all fun j => decide (j < i)).getD true
theorem ujw {l : List Bool} (hf : fwdB ol = true) (hl : l.length = ol.length) (h : Region.ready .any ol.toArray l.toArray = []) : ∀ i, i < ol.length → l[i]? = some true := by
 intro i
 induction i using Nat.strongRecOn with
 | _ i ih =>
  intro hi
  obtain ⟨o, ho⟩ : ∃ o, ol[i]? = some o := ⟨_, List.getElem?_eq_getElem hi⟩
  have e := List.getElem?_eq_getElem (l := l) (i := i) (by omega)
  cases hb : l[i]'(by omega) with
  | true => rw [e, hb]
  | false =>
   exfalso
   have hm : i ∈ Region.ready .any ol.toArray l.toArray := by
    unfold Region.ready
    simp only [List.mem_filter, List.mem_range, List.size_toArray, Bool.and_eq_true, Bool.not_eq_true']
    refine ⟨hi, by rw [Array.getD_eq_getD_getElem?, List.getElem?_toArray, e, hb]; rfl, ?_⟩
    rw [List.getElem?_toArray, ho]
    simp only [Option.map_some, Option.getD_some]
    rw [← Array.all_toList, List.all_eq_true]
    intro e1 he1
    cases hq : Region.binds .any e1 with
    | false => rfl
    | true =>
     rw [Bool.not_true, Bool.false_or, Array.getD_eq_getD_getElem?, List.getElem?_toArray]
     have hj : e1.on ∈ qt o := List.mem_map.2 ⟨e1, List.mem_filter.2 ⟨he1, hq⟩, rfl⟩
     have h1 := List.all_eq_true.1 hf i (List.mem_range.2 hi)
     rw [ho] at h1
     simp only [Option.map_some, Option.getD_some, List.all_eq_true] at h1
     have hlt := of_decide_eq_true (h1 _ hj)
     rw [ih _ hlt (by omega)]; rfl
   rw [h] at hm
   cases hm
end
end Go.AB
namespace Go.AB
open Go Go.RowKit
variable {ρ : Option Nat}
section
variable {P : Program} {ops : Array Oper} {Q : Exit → Act → World → Prop} {S : World → Prop} {late : Nat → Bool}
/-- Values alone: whatever has come up. -/
theorem uhh {S2 : World → Prop} (fin : Act → World → Prop) (fuel : Nat) (hs : Region.noSelect ops = true) (hQ : ∀ (o : Option Tmp) (v : Value) c a w, Q (.panic c) (a.put o v) w → Q (.panic c) a w) :
  ∀ (π : List (Nat × Option Nat)) (listed : Array Bool) (a : Act) (w : World), Closed .any ops listed → mz ops late (fun _ => true) π listed = true →
   (∀ a, fin a w → i4 P .any ops Q S late fuel (l3 π listed) a w) → gx P ops (jm fin) S2 late (fun _ => false) (fun _ => true) π a w → i4 P .any ops Q S late (gw π + fuel) listed a w := by
 intro π
 induction π with
 | nil =>
  intro listed a w _ _ hf h
  have := hf a h
  simpa [gw, l3] using this
 | cons p rest ih =>
  obtain ⟨i, m⟩ := p
  intro listed a w hcl hc hf h
  cases m with
  | some j => simp [mz] at hc
  | none =>
   simp only [mz, Bool.and_eq_true] at hc
   obtain ⟨⟨⟨⟨hready, hfree⟩, hsome⟩, hlate⟩, hc2⟩ := hc
   simp only [gx, Bool.false_eq_true, if_false] at h
   cases ho : ops[i]? with
   | none => rw [ho] at hsome; cases hsome
   | some o =>
    rw [ho] at h
    obtain ⟨v, hy, hrest⟩ := h
    have hi : i ∈ Region.ready .any ops listed := by simpa using hready
    have hrec := ih _ _ _ (hcl.set hi) hc2 hf hrest
    have hp : gw ((i, none) :: rest) + fuel = gw rest + fuel + 1 := by simp only [gw]; omega
    rw [hp]
    simp only [if_true] at hy
    exact s9 (depth := ops.size) (fun _ => True) ho (Region.noSelect_spec hs) (fun c a w => hQ o.dst v c a w) (.inl fun _ => trivial) (gw rest + fuel) listed a w hcl (Region.free_spec ho hfree) hi hy trivial hrec
end
section
variable (P : Program) (ol : List Oper) (K : St → Prop) (D : List Nat) (late : Nat → Bool)
/-- What is left, in whatever order; b: something late has come up. -/
def lh (b : Bool) (fuel : Nat) (listed : List Bool) (st : St) : Prop :=
 ∀ (E0 : Env) (w0 : World) (Q : Act → World → Prop), (∀ a' w' st' E', Ev E0 w0 E' w' → Sim E' w' st' a' → K st' → Q a' w') →
  ∀ E1 w1 a, Ev E0 w0 E1 w1 → Sim E1 w1 st a → (b = false → ∀ n ∈ D, E1.T n = E0.T n) → i4 P .any ol.toArray (jm Q) (Keeps E0 (· ∈ D) w0) late fuel listed.toArray a w1
def yh (b : Bool) (fuel : Nat) (listed : List Bool) (i : Nat) (st : St) : Prop :=
 ∃ o, ol[i]? = some o ∧ fe ol.toArray st o = some true ∧ ((b = false ∧ EStep P o st fun st' => n5 D st st' ∧ lh P ol K D late false fuel (listed.set i true) st') ∨ (late i = true ∧ EStep P o st (lh P ol K D late true fuel (listed.set i true))))
def s7 (b : Bool) (fuel : Nat) (listed : List Bool) (st : St) : List Nat → Prop
 | [] => True
 | i :: is => yh P ol K D late b fuel listed i st ∧ s7 b fuel listed st is
end
section
variable {P : Program} {ol : List Oper} {K : St → Prop} {D : List Nat} {late : Nat → Bool} {b : Bool} {fuel : Nat} {listed : List Bool} {st : St} {i : Nat} {is : List Nat} {o : Oper} {c : C}
theorem sv : s7 P ol K D late b fuel listed st [] := trivial
theorem sw (h : yh P ol K D late b fuel listed i st) (k : s7 P ol K D late b fuel listed st is) : s7 P ol K D late b fuel listed st (i :: is) := ⟨h, k⟩
theorem sq (hL : late i = true) (hol : ol[i]? = some o) (hg : fe ol.toArray st o = some true) {listed' : List Bool} (hl : listed.set i true = listed') (h : EStep P o st (lh P ol K D late true fuel listed')) : yh P ol K D late b fuel listed i st :=
 ⟨o, hol, hg, .inr ⟨hL, by rw [hl]; exact h⟩⟩
theorem ug2 (hr : (Region.ready .any ol.toArray listed.toArray == []) = true) (h : K st) : lh P ol K D late b fuel listed st := by
 intro E0 w0 Q hQ E1 w1 a hev hs _
 have hr' : Region.ready .any ol.toArray listed.toArray = [] := by simpa using hr
 have hq := hQ a w1 st E1 hev hs h
 cases fuel with
 | zero => exact ⟨hr', hq⟩
 | succ n => exact ⟨fun _ => hq, fun i hi => by rw [hr'] at hi; cases hi⟩
theorem ra (is : List Nat) (hr : (Region.ready .any ol.toArray listed.toArray == is) = true) (hne : is ≠ []) (h : s7 P ol K D late b fuel listed st is) : lh P ol K D late b (fuel + 1) listed st := by
 intro E0 w0 Q hQ E1 w1 a hev hs hb
 have hr' : Region.ready .any ol.toArray listed.toArray = is := by simpa using hr
 refine ⟨fun e => absurd (hr'.symm.trans e) hne, fun i hi => ?_⟩
 rw [hr'] at hi
 have hi' : yh P ol K D late b fuel listed i st := by
  clear hr hr' hne
  induction is with
  | nil => cases hi
  | cons j is ih =>
   rcases List.mem_cons.1 hi with rfl | hi
   ·exact h.1
   ·exact ih h.2 hi
 obtain ⟨o, hol, hg, hcase⟩ := hi'
 have ho : ol.toArray[i]? = some o := by simpa using hol
 have hset : listed.toArray.setIfInBounds i true = (listed.set i true).toArray := by simp
 refine wpOp_step ho fun Kr hK => ?_
 rw [if_pos (kf hg hs)]
 rcases hcase with ⟨rfl, h1⟩ | ⟨hL, h1⟩
 ·refine h1 E1 w1 a hs Kr _ fun a' w' st' E' q1 q2 q3 => ?_
  have hk := xi hs q1 q2 q3.1
  refine hK a' w' ⟨.inr fun hS => ⟨fun b j hj => (q1.cell b j (Nat.lt_of_lt_of_le hj (hev.L b))).trans (hS.1 b j hj), fun n hn ver wv val b ht hb' => ?_⟩, ?_⟩
  ·have := hb rfl n hn
   exact ((hk n hn).2 ver wv val b (this.trans ht) hb').trans (hS.2 n hn ver wv val b ht hb')
  ·rw [hset]
   exact q3.2 E0 w0 Q hQ E' w' a' (hev.trans q1) q2 fun e n hn => (hk n hn).1.trans (hb rfl n hn)
 ·refine h1 E1 w1 a hs Kr _ fun a' w' st' E' q1 q2 q3 => ?_
  refine hK a' w' ⟨.inl hL, ?_⟩
  rw [hset]
  exact q3 E0 w0 Q hQ E' w' a' (hev.trans q1) q2 fun e => by cases e
theorem sx {total : Nat} (π : List (Nat × Option Nat)) (fuel : Nat) (listed' : List Bool)
  (hchk : (ua2 ol.toArray listed.toArray && (Region.noSelect ol.toArray && (mz ol.toArray late (fun _ => true) π listed.toArray && ((l3 π listed.toArray).toList == listed' && total == gw π + fuel)))) = true)
  (h : jp P ol.toArray (fun st' => n5 D st st' ∧ lh P ol K D late b fuel listed' st') [] late (fun _ => false) (fun _ => true) π st) : lh P ol K D late b total listed st := by
 simp only [Bool.and_eq_true, beq_iff_eq] at hchk
 obtain ⟨h0, h1, h2, h3, h4⟩ := hchk
 subst h4
 intro E0 w0 Q hQ E1 w1 a hev hs hb
 have hend : l3 π listed.toArray = listed'.toArray := by rw [← h3]
 refine uhh (S2 := Keeps E1 (· ∈ ([] : List Nat)) w1) (fun a' w' => i4 P .any ol.toArray (jm Q) (Keeps E0 (· ∈ D) w0) late fuel listed'.toArray a' w') fuel h1 (fun _ _ _ _ _ h => h) π _ a w1 (uf2 h0) h2 (fun a' h' => by rw [hend]; exact h') ?_
 exact h E1 w1 _ (fun a' w' st' E' q1 q2 q3 => q3.2 E0 w0 Q hQ E' w' a' (hev.trans q1) q2 fun e n hn => ((xi hs q1 q2 q3.1) n hn).1.trans (hb e n hn)) a hs
theorem ugq {id : Nat} {l : List Oper} {Q : Exit → St → Prop} (π : List (Nat × Option Nat)) (late N : Nat → Bool) (fuel : Nat) (listed : List Bool) (D : List Nat) (hm : P.follows .mixedOrders = true)
  (hchk : (rr l && (Region.noSelect l.toArray && (mz l.toArray late N π (Array.replicate l.toArray.size false) && ((l3 π (Array.replicate l.toArray.size false)).toList == listed && gw π + fuel == l.toArray.size)))) = true)
  (h : jp P l.toArray (fun st' => n5 D st st' ∧ lh P l (Q .normal) D late false fuel listed st') D late (fun _ => false) N π st) : AW ρ P (.region id l.toArray true) Q st := by
 intro E w a hs
 simp only [Bool.and_eq_true, beq_iff_eq] at hchk
 obtain ⟨h0, h1, h2, h3, h4⟩ := hchk
 have hev : Ev E w E w.drew := Ev.same ((Below.refl _ _).drew) rfl
 have hend : l3 π (Array.replicate l.toArray.size false) = listed.toArray := by rw [← h3]
 have key : i4 P .any l.toArray (jm fun a' w' => mo E w Q .normal a' w') (Keeps E (· ∈ D) w.drew) late (gw π + fuel) (Array.replicate l.toArray.size false) a w.drew := by
  refine yi (fun a' w' => i4 P .any l.toArray (jm fun a' w' => mo E w Q .normal a' w') (Keeps E (· ∈ D) w.drew) late fuel listed.toArray a' w') fuel h1 (fun _ _ _ _ _ h => h) π _ a w.drew ?_ h2 (Keeps.refl _ _ _) (fun a' h' => by rw [hend]; exact h') ?_
  ·intro j o _ hj
   rw [Array.getD_eq_getD_getElem?, Array.getElem?_replicate] at hj
   split at hj <;> simp at hj
  ·exact h E w.drew _ (fun a' w' st' E' q1 q2 q3 => q3.2 E w.drew _ (fun a2 w2 st2 E2 r1 r2 r3 => ⟨st2, E2, hev.trans r1, r2, r3⟩) E' w' a' q1 q2 fun _ n hn => ((xi hs.drew q1 q2 q3.1) n hn).1) a hs.drew
 rw [h4] at key
 refine iv (Q := jm fun a' w' => mo E w Q .normal a' w') ?_ (uaz hm h0 (vu _ _ _ _ key))
 intro e a' w' hq
 cases e with
 | normal => exact hq
 | _ => exact hq.elim
end
/-- Four objects that are changed. -/
theorem ub0 {g H : Nat → Option GObj} {a b c d : Nat} {oa ob oc od : GObj} (ha : H a = some oa) (hb : H b = some ob) (hc : H c = some oc) (hd : H d = some od) (h : ∀ n o, n ≠ a → n ≠ b → n ≠ c → n ≠ d → g n = some o → H n = some o) :
  ∀ n o, ay (ay (ay (ay g a oa) b ob) c oc) d od n = some o → H n = some o := by
 intro n o hn
 by_cases e1 : n = d
 ·subst e1; rw [ng] at hn; rw [hd]; exact hn
 ·rw [i5 e1] at hn
  by_cases e2 : n = c
  ·subst e2; rw [ng] at hn; rw [hc]; exact hn
  ·rw [i5 e2] at hn
   by_cases e3 : n = b
   ·subst e3; rw [ng] at hn; rw [hb]; exact hn
   ·rw [i5 e3] at hn
    by_cases e4 : n = a
    ·subst e4; rw [ng] at hn; rw [ha]; exact hn
    ·rw [i5 e4] at hn
     exact h n o e4 e3 e2 e1 hn
end Go.AB
namespace Go.AB
open Go Go.RowKit
section
variable {P : Program} {ol : List Oper} {K : St → Prop} {D : List Nat} {late : Nat → Bool}
theorem upu (I : List Bool → St → Prop) (stop : List Bool → Bool) (hf : fwdB ol = true) (hl : ∀ l st, I l st → l.length = ol.length) (hall : ∀ l st, I l st → (∀ i, i < ol.length → l[i]? = some true) → stop l = true)
  (hs : ∀ l st i o, I l st → stop l = false → ol[i]? = some o → l[i]? = some false → (∀ j ∈ qt o, l[j]? = some true) → fe ol.toArray st o = some true ∧ EStep P o st fun st' => n5 D st st' ∧ I (l.set i true) st')
  (he : ∀ l st, I l st → stop l = true → lh P ol K D late false (pj l) l st) : ∀ (fuel : Nat) (l : List Bool) (st : St), I l st → pj l = fuel → lh P ol K D late false fuel l st := by
 intro fuel
 induction fuel with
 | zero =>
  intro l st hI h0
  have hz : ∀ i, i < ol.length → l[i]? = some true := fun i hi => by
   have e := List.getElem?_eq_getElem (l := l) (i := i) (by rw [hl l st hI]; exact hi)
   cases hb : l[i]'(by rw [hl l st hI]; exact hi) with
   | true => rw [e, hb]
   | false => exact absurd (by rw [e, hb]) (ulh h0 i)
  have := he l st hI (hall l st hI hz)
  rwa [h0] at this
 | succ fuel ih =>
  intro l st hI h0
  cases hst : stop l with
  | true =>
   have := he l st hI hst
   rwa [h0] at this
  | false =>
   cases h : Region.ready .any ol.toArray l.toArray with
   | nil => rw [hall l st hI (ujw hf (hl l st hI) h)] at hst; cases hst
   | cons i is =>
    refine ra (i :: is) (by rw [h]; exact beq_self_eq_true _) (by simp) ?_
    have key : ∀ js : List Nat, (∀ j ∈ js, j ∈ Region.ready .any ol.toArray l.toArray) → s7 P ol K D late false fuel l st js := by
     intro js
     induction js with
     | nil => intro _; trivial
     | cons j js ihj =>
      intro hjs
      refine ⟨?_, ihj fun k hk => hjs k (List.mem_cons_of_mem _ hk)⟩
      obtain ⟨o, ho, h2, h3⟩ := ujx (hjs j (List.mem_cons_self ..)) (hl l st hI)
      have hn : pj (l.set j true) = fuel := by have := zr h2; omega
      obtain ⟨hg, hE⟩ := hs l st j o hI hst ho h2 h3
      exact ⟨o, ho, hg, .inl ⟨rfl, hE.mono fun st' h' => ⟨h'.1, ih _ _ h'.2 hn⟩⟩⟩
    exact key (i :: is) fun j hj => by rw [h]; exact hj
/-- A state whose slots stand in another order. -/
theorem upt {b : Bool} {fuel : Nat} {listed : List Bool} {st st' : St} (hn : st.n = st'.n) (hd : st.df = st'.df) (hA : ∀ i, cy st.l st.r i = cy st'.l st'.r i) (hG : st.G = st'.G) (hx : st.nx = st'.nx) (h : lh P ol K D late b fuel listed st') : lh P ol K D late b fuel listed st := by
 intro E0 w0 Q hQ E1 w1 a hev hs hb
 refine h E0 w0 Q hQ E1 w1 a hev ⟨hd ▸ hs.d, hn ▸ hs.sz, fun i v hv => ?_, ?_⟩ hb
 ·have := hs.t i v hv
  rwa [hA] at this
 ·have := hs.g
  rwa [hG, hx] at this
end
theorem rj {st st' : St} {n : Nat} {o : GObj} (h1 : st.G n = some o) (h2 : st'.G n = some o) : n5 [n] st st' := ucd h1 h2 rfl ucc
/-- whether an operation waits for another one -/
def pz (ol : List Oper) (i j : Nat) : Bool := ((ol[i]?).map fun o => (qt o).contains j).getD false
theorem sj {ol : List Oper} {i j : Nat} {o : Oper} (h : pz ol i j = true) (ho : ol[i]? = some o) : j ∈ qt o := by
 unfold pz at h
 rw [ho] at h
 simpa using h
/-- the slots, when so much came up: builds and appends of three lists -/
def adS (A0 : Nat → C) (c8 c9 c15 c16 c22 c23 : C) (b8 b9 b15 b16 b22 b23 : Bool) (i : Nat) : C :=
 bif b8 && Nat.beq 109 i then c8 else bif b9 && Nat.beq 110 i then c9 else bif b15 && Nat.beq 116 i then c15 else bif b16 && Nat.beq 117 i then c16 else bif b22 && Nat.beq 123 i then c22 else bif b23 && Nat.beq 124 i then c23 else A0 i
def adG (G0 G1 G2 G3 : Nat → Option GObj) (b9 b16 b23 : Bool) : Nat → Option GObj := bif b23 then G3 else bif b16 then G2 else bif b9 then G1 else G0
structure AdI (A0 : Nat → C) (c8 c9 c15 c16 c22 c23 : C) (G0 G1 G2 G3 : Nat → Option GObj) (nn df nx : Nat) (b8 b9 b15 b16 b22 b23 : Bool) (st : St) : Prop where
 n : st.n = nn
 df : st.df = df
 nx : st.nx = nx
 A : ∀ i, cy st.l st.r i = adS A0 c8 c9 c15 c16 c22 c23 b8 b9 b15 b16 b22 b23 i
 G : st.G = adG G0 G1 G2 G3 b9 b16 b23
 e9 : b9 = true → b8 = true
 e16 : b16 = true → b15 = true ∧ b9 = true
 e23 : b23 = true → b22 = true ∧ b16 = true
theorem ki {a b i : Nat} (h : Nat.beq a i = true) (hab : Nat.beq a b = false) : Nat.beq b i = false := by
 have := Nat.eq_of_beq_eq_true h
 subst this
 cases e : Nat.beq b a
 ·rfl
 ·have := Nat.eq_of_beq_eq_true e
  subst this
  rw [Nat.beq_refl] at hab; cases hab
end Go.AB
namespace Go.AB
open Go Go.RowKit
section
variable {A0 : Nat → C} {c8 c9 c15 c16 c22 c23 : C} {G0 G1 G2 G3 : Nat → Option GObj} {nn df nx : Nat} {b8 b9 b15 b16 b22 b23 : Bool} {st : St}
theorem AdI.cong {x : List (Nat × C)} {g g' : Nat → Option GObj} (e : g = g') (h : AdI A0 c8 c9 c15 c16 c22 c23 G0 G1 G2 G3 nn df nx b8 b9 b15 b16 b22 b23 { st with r := x, G := g' }) : AdI A0 c8 c9 c15 c16 c22 c23 G0 G1 G2 G3 nn df nx b8 b9 b15 b16 b22 b23 { st with r := x, G := g } := by
 subst e; exact h
theorem AdI.step8 (h : AdI A0 c8 c9 c15 c16 c22 c23 G0 G1 G2 G3 nn df nx false b9 b15 b16 b22 b23 st) (k9 : b9 = false) (k16 : b16 = false) (k23 : b23 = false) : AdI A0 c8 c9 c15 c16 c22 c23 G0 G1 G2 G3 nn df nx true b9 b15 b16 b22 b23 { st with r := (109, c8) :: st.r } := by
 subst k9
 subst k16
 subst k23
 exact {
  n := h.n
  df := h.df
  nx := h.nx
  A := fun i => by
   show (bif Nat.beq 109 i then _ else cy st.l st.r i) = _
   rw [h.A i]
   cases e : Nat.beq 109 i
   ·simp only [adS, e, Bool.and_false, Bool.false_and, cond_false]
   rw [← Nat.eq_of_beq_eq_true e]
   cases b15 <;> cases b22 <;> rfl
  G := h.G
  e9 := fun _ => rfl
  e16 := fun e => nomatch e
  e23 := fun e => nomatch e }
theorem AdI.step9 (h : AdI A0 c8 c9 c15 c16 c22 c23 G0 G1 G2 G3 nn df nx true false b15 b16 b22 b23 st) (k16 : b16 = false) (k23 : b23 = false) : AdI A0 c8 c9 c15 c16 c22 c23 G0 G1 G2 G3 nn df nx true true b15 b16 b22 b23 { st with r := (110, c9) :: st.r, G := G1 } := by
 subst k16
 subst k23
 exact {
  n := h.n
  df := h.df
  nx := h.nx
  A := fun i => by
   show (bif Nat.beq 110 i then _ else cy st.l st.r i) = _
   rw [h.A i]
   cases e : Nat.beq 110 i
   ·simp only [adS, e, Bool.and_false, Bool.false_and, cond_false]
   rw [← Nat.eq_of_beq_eq_true e]
   cases b15 <;> cases b22 <;> rfl
  G := rfl
  e9 := fun _ => rfl
  e16 := fun e => nomatch e
  e23 := fun e => nomatch e }
theorem AdI.step15 (h : AdI A0 c8 c9 c15 c16 c22 c23 G0 G1 G2 G3 nn df nx b8 b9 false b16 b22 b23 st) (k16 : b16 = false) (k23 : b23 = false) : AdI A0 c8 c9 c15 c16 c22 c23 G0 G1 G2 G3 nn df nx b8 b9 true b16 b22 b23 { st with r := (116, c15) :: st.r } := by
 subst k16
 subst k23
 exact {
  n := h.n
  df := h.df
  nx := h.nx
  A := fun i => by
   show (bif Nat.beq 116 i then _ else cy st.l st.r i) = _
   rw [h.A i]
   cases e : Nat.beq 116 i
   ·simp only [adS, e, Bool.and_false, Bool.false_and, cond_false]
   rw [← Nat.eq_of_beq_eq_true e]
   cases b8 <;> cases b9 <;> cases b22 <;> rfl
  G := h.G
  e9 := h.e9
  e16 := fun e => nomatch e
  e23 := fun e => nomatch e }
theorem AdI.step16 (h : AdI A0 c8 c9 c15 c16 c22 c23 G0 G1 G2 G3 nn df nx true true true false b22 b23 st) (k23 : b23 = false) : AdI A0 c8 c9 c15 c16 c22 c23 G0 G1 G2 G3 nn df nx true true true true b22 b23 { st with r := (117, c16) :: st.r, G := G2 } := by
 subst k23
 exact {
  n := h.n
  df := h.df
  nx := h.nx
  A := fun i => by
   show (bif Nat.beq 117 i then _ else cy st.l st.r i) = _
   rw [h.A i]
   cases e : Nat.beq 117 i
   ·simp only [adS, e, Bool.and_false, Bool.false_and, cond_false]
   rw [← Nat.eq_of_beq_eq_true e]
   cases b22 <;> rfl
  G := rfl
  e9 := fun _ => rfl
  e16 := fun _ => ⟨rfl, rfl⟩
  e23 := fun e => nomatch e }
theorem AdI.step22 (h : AdI A0 c8 c9 c15 c16 c22 c23 G0 G1 G2 G3 nn df nx b8 b9 b15 b16 false b23 st) (k23 : b23 = false) : AdI A0 c8 c9 c15 c16 c22 c23 G0 G1 G2 G3 nn df nx b8 b9 b15 b16 true b23 { st with r := (123, c22) :: st.r } := by
 subst k23
 exact {
  n := h.n
  df := h.df
  nx := h.nx
  A := fun i => by
   show (bif Nat.beq 123 i then _ else cy st.l st.r i) = _
   rw [h.A i]
   cases e : Nat.beq 123 i
   ·simp only [adS, e, Bool.and_false, Bool.false_and, cond_false]
   rw [← Nat.eq_of_beq_eq_true e]
   cases b8 <;> cases b9 <;> cases b15 <;> cases b16 <;> rfl
  G := h.G
  e9 := h.e9
  e16 := h.e16
  e23 := fun e => nomatch e }
theorem AdI.step23 (h : AdI A0 c8 c9 c15 c16 c22 c23 G0 G1 G2 G3 nn df nx true true true true true false st)  : AdI A0 c8 c9 c15 c16 c22 c23 G0 G1 G2 G3 nn df nx true true true true true true { st with r := (124, c23) :: st.r, G := G3 } := by
 exact {
  n := h.n
  df := h.df
  nx := h.nx
  A := fun i => by
   show (bif Nat.beq 124 i then _ else cy st.l st.r i) = _
   rw [h.A i]
   cases e : Nat.beq 124 i
   ·simp only [adS, e, Bool.and_false, Bool.false_and, cond_false]
   rw [← Nat.eq_of_beq_eq_true e]
   rfl
  G := rfl
  e9 := fun _ => rfl
  e16 := fun _ => ⟨rfl, rfl⟩
  e23 := fun _ => ⟨rfl, rfl⟩ }
end
/-- the flags, as the list of what came up -/
def adL (b8 b9 b15 b16 b22 b23 : Bool) : List Bool := [true, true, true, true, true, true, true, true, b8, b9, true, true, true, true, true, b15, b16, true, true, true, true, true, b22, b23, false, false, false, false, false, false, false, false, false]
theorem w4 {a b : Bool} (h : a = true → b = true) (hb : b = false) : a = false := by
 cases a
 ·rfl
 rw [h rfl] at hb; cases hb
theorem sb {ops : Array Oper} {st : St} {o : Oper} (h1 : uu o.op = false) (h2 : o.guard = none) : fe ops st o = some true := by
 unfold fe xl
 rw [h1, h2]; rfl
theorem o9 {st : St} {i n : Nat} {c : C} (hn : st.n = n) (hi : Nat.blt i n = true) (h : cy st.l st.r i = c) : st.at i = c := by
 unfold St.at
 rw [hn, hi]; exact h
end Go.AB
namespace Go.Proofs.YtgffhbbcpgdjjaaGreatDoor
set_option maxRecDepth 10000
open Go Go.RowKit Go.AB
open Go.AB.Enc (cells)
open Go.PB (PlaceD)
set_option maxHeartbeats 1000000 in
theorem ug1 (ws : List Int) (al bo : List (List PlaceD)) (w : Int) (fo bt : List PlaceD) (nB a1 a2 a3 : Nat) {ob : GObj} {ol : List Oper} {K : St → Prop} {late : Nat → Bool} (st0 : St) (hlen : ol.length = 33) (hf : fwdB ol = true) (hgd : (ol.all fun o => o.guard.isNone) = true)
  (hdp : (pz ol 9 8 && pz ol 16 15 && pz ol 16 9 && pz ol 23 22 && pz ol 23 16 && (List.range 9).all fun i => pz ol (24 + i) 23) = true)
  (q8 : (ol[8]?).map (fun o => (o.op, o.dst)) = some (.buildSlice 33 1 #[(0, .tmp 108)], some 109)) (q9 : (ol[9]?).map (fun o => (o.op, o.dst)) = some (.call { callee := .builtin .append, args := #[.tmp 107, .tmp 109], argTypes := #[33, 33] }, some 110))
  (q15 : (ol[15]?).map (fun o => (o.op, o.dst)) = some (.buildSlice 111 1 #[(0, .tmp 115)], some 116)) (q16 : (ol[16]?).map (fun o => (o.op, o.dst)) = some (.call { callee := .builtin .append, args := #[.tmp 114, .tmp 116], argTypes := #[111, 111] }, some 117))
  (q22 : (ol[22]?).map (fun o => (o.op, o.dst)) = some (.buildSlice 111 1 #[(0, .tmp 122)], some 123)) (q23 : (ol[23]?).map (fun o => (o.op, o.dst)) = some (.call { callee := .builtin .append, args := #[.tmp 121, .tmp 123], argTypes := #[111, 111] }, some 124))
  (hn : st0.n = 131) (h107 : cy st0.l st0.r 107 = .list (ws.map cells) (.tip a1)) (h108 : cy st0.l st0.r 108 = .v (.int .i64 w)) (h114 : cy st0.l st0.r 114 = .list (al.map cells) (.tip a2)) (h115 : cy st0.l st0.r 115 = lst fo) (h121 : cy st0.l st0.r 121 = .list (bo.map cells) (.tip a3)) (h122 : cy st0.l st0.r 122 = lst bt)
  (hB : st0.G nB = some ob) (hG1 : st0.G a1 = some (.tip ws.length 3 1)) (hG2 : st0.G a2 = some (.tip al.length 36 1)) (hG3 : st0.G a3 = some (.tip bo.length 36 1))
  (d1 : nB ≠ a1) (d2 : nB ≠ a2) (d3 : nB ≠ a3) (d4 : a1 ≠ a2) (d5 : a1 ≠ a3) (d6 : a2 ≠ a3) (lw : ws.length ≤ 100) (la : al.length ≤ 100) (lb : bo.length ≤ 100)
  (hK : lh Tryz.prog ol K [nB] late false 9 (adL true true true true true true) { st0 with r := (124, .list ((bo ++ [bt]).map cells) (.tip a3)) :: (123, .list [[lst bt]] .none) :: (117, .list ((al ++ [fo]).map cells) (.tip a2)) :: (116, .list [[lst fo]] .none) :: (110, .list ((ws ++ [w]).map cells) (.tip a1)) :: (109, .list [[.v (.int .i64 w)]] .none) :: st0.r, G := ay (ay (ay st0.G a1 (.tip (ws ++ [w]).length 3 1)) a2 (.tip (al ++ [fo]).length 36 1)) a3 (.tip (bo ++ [bt]).length 36 1) }) :
  lh Tryz.prog ol K [nB] late false 15 (adL false false false false false false) st0 := by
 have hop : ∀ {i : Nat} {o : Oper} {q : Op} {d : Option Tmp}, ol[i]? = some o → (ol[i]?).map (fun o => (o.op, o.dst)) = some (q, d) → o.op = q ∧ o.dst = d := fun {i o q d} h k => by
  rw [h] at k
  simp only [Option.map_some, Option.some.injEq, Prod.mk.injEq] at k
  exact k
 simp only [Bool.and_eq_true, List.all_eq_true, List.mem_range] at hdp
 obtain ⟨⟨⟨⟨⟨p1, p2⟩, p3⟩, p4⟩, p5⟩, p6⟩ := hdp
 obtain ⟨G1, hG1'⟩ : ∃ G1, ay st0.G a1 (.tip (ws ++ [w]).length 3 1) = G1 := ⟨_, rfl⟩
 obtain ⟨G2, hG2'⟩ : ∃ G2, ay G1 a2 (.tip (al ++ [fo]).length 36 1) = G2 := ⟨_, rfl⟩
 obtain ⟨G3, hG3'⟩ : ∃ G3, ay G2 a3 (.tip (bo ++ [bt]).length 36 1) = G3 := ⟨_, rfl⟩
 rw [hG1', hG2', hG3'] at hK
 have k1 : G1 a2 = some (.tip al.length 36 1) := by rw [← hG1', i5 d4.symm]; exact hG2
 have k2 : G2 a3 = some (.tip bo.length 36 1) := by rw [← hG2', i5 d6.symm, ← hG1', i5 d5.symm]; exact hG3
 have m1 : G1 nB = some ob := by rw [← hG1', i5 d1]; exact hB
 have m2 : G2 nB = some ob := by rw [← hG2', i5 d2]; exact m1
 have m3 : G3 nB = some ob := by rw [← hG3', i5 d3]; exact m2
 have mB : ∀ b9 b16 b23, adG st0.G G1 G2 G3 b9 b16 b23 nB = some ob := fun b9 b16 b23 => by
  cases b23 <;> cases b16 <;> cases b9 <;> assumption
 refine upu (fun l st => ∃ b8 b9 b15 b16 b22 b23, l = adL b8 b9 b15 b16 b22 b23 ∧ AdI (cy st0.l st0.r) (.list [[.v (.int .i64 w)]] .none) (.list ((ws ++ [w]).map cells) (.tip a1)) (.list [[lst fo]] .none) (.list ((al ++ [fo]).map cells) (.tip a2)) (.list [[lst bt]] .none) (.list ((bo ++ [bt]).map cells) (.tip a3)) st0.G G1 G2 G3 131 st0.df st0.nx b8 b9 b15 b16 b22 b23 st) (fun l => (l[23]?).getD false) hf ?_ ?_ ?_ ?_ 15 _ st0 ?_ rfl
 ·rintro l st ⟨b8, b9, b15, b16, b22, b23, rfl, h⟩
  rw [hlen]; rfl
 ·rintro l st ⟨b8, b9, b15, b16, b22, b23, rfl, h⟩ hall
  rw [hlen] at hall
  have := hall 23 (by omega)
  show ((adL b8 b9 b15 b16 b22 b23)[23]?).getD false = true
  rw [this]; rfl
 ·rintro l st i o ⟨b8, b9, b15, b16, b22, b23, rfl, h⟩ hst hi hoff hdeps
  have hb23 : b23 = false := hst
  subst hb23
  have hlt := (List.getElem?_eq_some_iff.1 hi).1
  rw [hlen] at hlt
  have hgo : o.guard = none := by
   have := List.all_eq_true.1 hgd o (List.mem_of_getElem? hi)
   simpa using this
  have hsB := h.G ▸ mB b9 b16 false
  have hcase : (i = 8 ∨ i = 9 ∨ i = 15 ∨ i = 16 ∨ i = 22 ∨ i = 23) ∨ 24 ≤ i ∨ i = 0 ∨ i = 1 ∨ i = 2 ∨ i = 3 ∨ i = 4 ∨ i = 5 ∨ i = 6 ∨ i = 7 ∨ i = 10 ∨ i = 11 ∨ i = 12 ∨ i = 13 ∨ i = 14 ∨ i = 17 ∨ i = 18 ∨ i = 19 ∨ i = 20 ∨ i = 21 := by omega
  rcases hcase with (rfl | rfl | rfl | rfl | rfl | rfl) | h24 | rfl | rfl | rfl | rfl | rfl | rfl | rfl | rfl | rfl | rfl | rfl | rfl | rfl | rfl | rfl | rfl | rfl | rfl
  ·obtain ⟨e1, e2⟩ := hop hi q8
   obtain rfl : b8 = false := Option.some.inj hoff
   refine ⟨sb (by rw [e1]; rfl) hgo, el (rows := [[.v (.int .i64 w)]]) (parts := [(0, .tmp 108)]) e1 rfl ?_ (by decide) (by decide) (by simp) (by decide) ?_⟩
   ·show oh [(0, st.at 108)] = _
    rw [o9 (c := .v (.int .i64 w)) h.n rfl (by rw [h.A]; cases b9 <;> cases b15 <;> cases b16 <;> cases b22 <;> exact h108)]; rfl
   rw [e2]
   exact ⟨rj hsB hsB, true, b9, b15, b16, b22, false, rfl, h.step8 (w4 h.e9 rfl) (w4 (fun e => h.e9 (h.e16 e).2) rfl) rfl⟩
  ·obtain ⟨e1, e2⟩ := hop hi q9
   obtain rfl : b9 = false := Option.some.inj hoff
   obtain rfl : b8 = true := Option.some.inj (hdeps 8 (sj p1 hi))
   have hk16 : b16 = false := w4 (fun e => (h.e16 e).2) rfl
   subst hk16
   have hG := h.G
   refine ⟨sb (by rw [e1]; rfl) hgo, l4 [w] e1 (o9 h.n rfl (by rw [h.A]; cases b15 <;> cases b22 <;> exact h107)) (by rw [hG]; exact hG1) rfl (o9 (c := .list [[.v (.int .i64 w)]] .none) h.n rfl (by rw [h.A]; rfl)) rfl (by simp only [List.length_cons, List.length_nil]; omega) ?_ (by simp only [List.length_cons, List.length_nil]; omega)⟩
   rw [e2]
   have e3 : ay st.G a1 (.tip (ws ++ [w]).length 3 1) = G1 := by rw [hG]; exact hG1'
   refine ⟨rj hsB (by show ay st.G a1 _ nB = _; rw [i5 d1]; exact hsB), true, true, b15, false, b22, false, rfl, ?_⟩
   exact (h.step9 rfl rfl).cong e3
  ·obtain ⟨e1, e2⟩ := hop hi q15
   obtain rfl : b15 = false := Option.some.inj hoff
   refine ⟨sb (by rw [e1]; rfl) hgo, el (rows := [[lst fo]]) (parts := [(0, .tmp 115)]) e1 rfl ?_ (by decide) (by decide) (by simp) (by decide) ?_⟩
   ·show oh [(0, st.at 115)] = _
    rw [o9 (c := lst fo) h.n rfl (by rw [h.A]; cases b8 <;> cases b9 <;> cases b16 <;> cases b22 <;> exact h115)]; rfl
   rw [e2]
   exact ⟨rj hsB hsB, b8, b9, true, b16, b22, false, rfl, h.step15 (w4 (fun e => (h.e16 e).1) rfl) rfl⟩
  ·obtain ⟨e1, e2⟩ := hop hi q16
   obtain rfl : b16 = false := Option.some.inj hoff
   obtain rfl : b15 = true := Option.some.inj (hdeps 15 (sj p2 hi))
   obtain rfl : b9 = true := Option.some.inj (hdeps 9 (sj p3 hi))
   obtain rfl : b8 = true := h.e9 rfl
   have hG := h.G
   refine ⟨sb (by rw [e1]; rfl) hgo, l4 [fo] e1 (o9 h.n rfl (by rw [h.A]; cases b22 <;> exact h114)) (by rw [hG]; exact k1) rfl (o9 (c := .list [[lst fo]] .none) h.n rfl (by rw [h.A]; rfl)) rfl (by simp only [List.length_cons, List.length_nil]; omega) ?_ (by simp only [List.length_cons, List.length_nil]; omega)⟩
   rw [e2]
   have e3 : ay st.G a2 (.tip (al ++ [fo]).length 36 1) = G2 := by rw [hG]; exact hG2'
   refine ⟨rj hsB (by show ay st.G a2 _ nB = _; rw [i5 d2]; exact hsB), true, true, true, true, b22, false, rfl, ?_⟩
   exact (h.step16 rfl).cong e3
  ·obtain ⟨e1, e2⟩ := hop hi q22
   obtain rfl : b22 = false := Option.some.inj hoff
   refine ⟨sb (by rw [e1]; rfl) hgo, el (rows := [[lst bt]]) (parts := [(0, .tmp 122)]) e1 rfl ?_ (by decide) (by decide) (by simp) (by decide) ?_⟩
   ·show oh [(0, st.at 122)] = _
    rw [o9 (c := lst bt) h.n rfl (by rw [h.A]; cases b8 <;> cases b9 <;> cases b15 <;> cases b16 <;> exact h122)]; rfl
   rw [e2]
   exact ⟨rj hsB hsB, b8, b9, b15, b16, true, false, rfl, h.step22 rfl⟩
  ·obtain ⟨e1, e2⟩ := hop hi q23
   obtain rfl : b22 = true := Option.some.inj (hdeps 22 (sj p4 hi))
   obtain rfl : b16 = true := Option.some.inj (hdeps 16 (sj p5 hi))
   obtain rfl : b15 = true := (h.e16 rfl).1
   obtain rfl : b9 = true := (h.e16 rfl).2
   obtain rfl : b8 = true := h.e9 rfl
   have hG := h.G
   refine ⟨sb (by rw [e1]; rfl) hgo, l4 [bt] e1 (o9 h.n rfl (by rw [h.A]; exact h121)) (by rw [hG]; exact k2) rfl (o9 (c := .list [[lst bt]] .none) h.n rfl (by rw [h.A]; rfl)) rfl (by simp only [List.length_cons, List.length_nil]; omega) ?_ (by simp only [List.length_cons, List.length_nil]; omega)⟩
   rw [e2]
   have e3 : ay st.G a3 (.tip (bo ++ [bt]).length 36 1) = G3 := by rw [hG]; exact hG3'
   refine ⟨rj hsB (by show ay st.G a3 _ nB = _; rw [i5 d3]; exact hsB), true, true, true, true, true, true, rfl, ?_⟩
   exact (h.step23).cong e3
  ·have hm := hdeps 23 (sj (i := i) (by have := p6 (i - 24) (by omega); rwa [show 24 + (i - 24) = i by omega] at this) hi)
   cases hm
  all_goals (cases hoff)
 ·rintro l st ⟨b8, b9, b15, b16, b22, b23, rfl, h⟩ hst
  obtain rfl : b23 = true := hst
  obtain ⟨rfl, rfl⟩ := h.e23 rfl
  obtain ⟨rfl, rfl⟩ := h.e16 rfl
  obtain rfl := h.e9 rfl
  refine upt ?_ ?_ (fun i => ?_) ?_ ?_ hK
  ·exact h.n.trans hn.symm
  ·exact h.df
  rotate_left
  ·exact h.G
  ·exact h.nx
  rw [h.A i]
  unfold adS
  show (bif Nat.beq 109 i then _ else bif Nat.beq 110 i then _ else bif Nat.beq 116 i then _ else bif Nat.beq 117 i then _ else bif Nat.beq 123 i then _ else bif Nat.beq 124 i then _ else cy st0.l st0.r i) = (bif Nat.beq 124 i then _ else bif Nat.beq 123 i then _ else bif Nat.beq 117 i then _ else bif Nat.beq 116 i then _ else bif Nat.beq 110 i then _ else bif Nat.beq 109 i then _ else cy st0.l st0.r i)
  cases e1 : Nat.beq 109 i
  ·cases e2 : Nat.beq 110 i
   ·cases e3 : Nat.beq 116 i
    ·cases e4 : Nat.beq 117 i
     ·cases e5 : Nat.beq 123 i
      ·cases e6 : Nat.beq 124 i <;> rfl
      rw [ki e5 (b := 124) rfl]; rfl
     rw [ki e4 (b := 124) rfl, ki e4 (b := 123) rfl]; rfl
    rw [ki e3 (b := 124) rfl, ki e3 (b := 123) rfl, ki e3 (b := 117) rfl]; rfl
   rw [ki e2 (b := 124) rfl, ki e2 (b := 123) rfl, ki e2 (b := 117) rfl, ki e2 (b := 116) rfl]; rfl
  rw [ki e1 (b := 124) rfl, ki e1 (b := 123) rfl, ki e1 (b := 117) rfl, ki e1 (b := 116) rfl, ki e1 (b := 110) rfl]; rfl
 exact ⟨false, false, false, false, false, false, rfl, { n := hn, df := rfl, nx := rfl, A := fun _ => rfl, G := rfl, e9 := (fun e => nomatch e), e16 := (fun e => nomatch e), e23 := (fun e => nomatch e) }⟩
end Go.Proofs.YtgffhbbcpgdjjaaGreatDoor
namespace Go.AB
open Go Go.RowKit
open Go.AB.Enc (cells)
section
variable {P : Program} {o : Oper} {st : St} {K : St → Prop}
/-- append to a slice without room: a copy, owned. -/
theorem ufy {α : Type} [Enc α] {t e : TypeId} {bytes : Nat} [AppT P t e (Enc.n α) bytes] {s x : Operand} {tok tk : Tok} {rows : List (List C)} (ys : List α) (ho : o.op = .call { callee := .builtin .append, args := #[s, x], argTypes := #[t, t] }) (hs : evC st s = .list [] tok) (htok : tok = .zero ∨ tok = .nil) (hx : evC st x = .list rows tk) (hy : rows = ys.map cells) (hne : ys ≠ []) (hn : 1 ≤ Enc.n α) (hb : ys.length * bytes ≤ 140737488355328) (hm : ys.length ≤ 9223372036854775807)
  (h : K (St.put { st with G := ay st.G st.nx (.arr 0 0 e (Enc.n α) ys.length (dx ys)), nx := st.nx + 1 } o.dst (.own st.nx 0 ys.length))) : EStep P o st K :=
 ld fun E w a hsim => by
  subst hy
  obtain ⟨ht, i, z, hie, hz, h1, h2, h3⟩ := AppT.spec (P := P) (t := t) (e := e) (sz := Enc.n α) (bytes := bytes)
  obtain ⟨sa, cap, _, _, e1, _, _, _, _, _, _, _, z1, z2, _⟩ := (hs ▸ hsim.ev s).list_inv
  have hcap : cap = 0 := by
   rcases htok with h | h
   ·exact z2 h
   ·exact (z1 h).2
  subst hcap
  have hrl : (ys.map (cells (α := α))).length = ys.length := List.length_map _
  obtain ⟨ao, c, news, e2, hl, hnews, hr, hone, h1c⟩ := x8 (hx ▸ hsim.ev x) (ml ys)
  rw [hrl] at e2 hl hnews
  have hy0 : ys.length ≠ 0 := fun e => hne (List.eq_nil_of_length_eq_zero e)
  obtain ⟨ad, rfl, hcells⟩ := hnews.resolve_left hy0
  have hl2 : news.length = ys.length * i.size := by rw [hl, h1]
  have key : ∃ nc, (Builtin.append_ #[t, t] o.type #[.slice sa 0 0, .slice (some ad) ys.length c]).run P w = .ok (.slice (some ⟨w.heap.size, 0, none⟩) ys.length nc) (w.drew.alloc (.cells (news.toArray ++ Builtin.zeroCells z.cells (nc - ys.length)) e)) ∧ ys.length ≤ nc ∧ nc ≤ maxLen := by
   refine ⟨grownCap w (0 + ys.length) 0 e, ?_, ?_, ?_⟩
   ·cases sa with
    | none =>
     have := run_append_nil (P := P) w t o.type e i z ht hie hz ad ys.length c news hl2 hcells (by omega) (by omega) (by rw [h2]; omega)
     simpa using this
    | some a0 =>
     have := run_append_grow (P := P) w t o.type e i z ht hie hz a0 0 0 [] (by simp) (by simp) ad ys.length c news hl2 hcells (by omega) (by omega) (growslice_fits (by omega) (by rw [h2]; simpa using hb))
     simpa using this
   ·have := grownCap_ge w (0 + ys.length) 0 e; omega
   ·exact grownCap_le_maxLen w (0 + ys.length) 0 e (by unfold maxLen; omega)
  obtain ⟨nc, hrun, hnc, hnm⟩ := key
  obtain ⟨ob, hob⟩ : ∃ ob, ob = Obj.cells (news.toArray ++ Builtin.zeroCells z.cells (nc - ys.length)) e := ⟨_, rfl⟩
  rw [← hob] at hrun
  have hev := Ev.laid hsim.g (o := ob) 0 (.inr rfl)
  have hg := SimG.laid hsim.g (o := ob) 0 (.inr rfl)
  have hnew : (w.drew.alloc ob).heap[w.heap.size]? = some ob := ux w.drew ob
  have hsz : (w.drew.alloc ob).heap.size = w.heap.size + 1 := by simp
  have hold : ∀ n tt b, (E.lay w.heap.size 0).T n = some tt → blk tt.2.2 = some b → b < w.heap.size := fun n tt b h5 h6 => (hsim.g.tb n _ _ _ b h5 h6).2
  have hnx := hsim.g.nx
  have hfr : ∀ b o', blk (.slice (some ⟨w.heap.size, 0, none⟩) ys.length nc) = some b → w.heap[b]? = some o' → False := fun b o' hbk ho' => by
   simp only [blk, Option.some.injEq] at hbk
   subst hbk
   have := (Array.getElem?_eq_some_iff.1 ho').1
   omega
  have hev2 := hev.thenName (.slice (some ⟨w.heap.size, 0, none⟩) ys.length nc) hfr
  have hg2 := SimG.name hg (.slice (some ⟨w.heap.size, 0, none⟩) ys.length nc) (.arr 0 0 e (Enc.n α) ys.length (dx ys)) (fun b hbk => by
   simp only [blk, Option.some.injEq] at hbk
   subst hbk
   exact ⟨hsim.g.base, by rw [hsz]; omega, fun n tt h5 h6 => absurd (hold n tt _ h5 h6) (by omega)⟩) (by
   refine ⟨.slice (some ⟨w.heap.size, 0, none⟩) ys.length nc, news, ?_, ⟨hl, .inr ⟨w.heap.size, nc, _, rfl, hsim.g.base, hnew.trans (by rw [hob]), hnc, hnm, ?_, ?_⟩⟩, fun c hc => ?_, hr.ev hev2, fun b hbk => ?_, hn⟩
   ·simp [Env.name, Env.lay, hnx]
   ·simp only [Array.size_append, List.size_toArray, size_zeroCells, hl]
    rw [h3, ← Nat.add_mul]
    congr 1
    omega
   ·simp only [Array.toList_append]
    rw [List.take_append_of_le_length (by simp [hl]), List.take_of_length_le (by simp [hl])]
   ·obtain ⟨r, hr1, hr2⟩ := List.mem_flatten.1 hc
    exact hone r hr1 c hr2
   ·simp only [blk, Option.some.injEq] at hbk
    subst hbk
    simp [Env.name, Env.lay])
  refine ⟨.slice (some ⟨w.heap.size, 0, none⟩) ys.length nc, w.drew.alloc ob, _, _, _, .own st.nx 0 ys.length, ?_, hev2, ?_, hg2, h⟩
  ·simp only [execOp, ho, resolve, invoke, builtin, Sem.run_bind, Sem.run_pure, Result.andThen_ok, List.map_toArray, List.map_cons, List.map_nil, e1, e2]
   simp only [List.length_nil]
   rw [hrun]; rfl
  ·refine R.own (by simp [Env.name, Env.lay]; omega) hnc hnm fun ver wv val htt => ?_
   simp only [Env.name, Env.lay, hnx, if_true, Option.some.injEq, Prod.mk.injEq] at htt
   obtain ⟨rfl, rfl, rfl⟩ := htt
   exact ⟨Nat.le_refl _, fun _ => ⟨_, Nat.le_refl _, rfl⟩⟩
end
/-- A function that gives nothing back ends. -/
theorem ufl {P : Program} {st : St} {fn : Func} {G : Nat → Option GObj} {nx : Nat} {e : Exit} (hf : fn.results = #[]) (he : e = .normal ∨ e = .ret) (hn : nx ≤ st.nx) (hG : ∀ n o, G n = some o → st.G n = some o) : pa P fn (.tup []) G nx e st := by
 have : om P fn st (.tup []) := fun E w a _ => ⟨_, results_none hf _ _ _, R.undef E w⟩
 rcases he with rfl | rfl
 ·exact ⟨this, hn, hG⟩
 ·exact ⟨this, hn, hG⟩
end Go.AB
namespace Go.AB
open Go Go.RowKit
open Go.Maps (Keyed)
section
variable {P : Program} {k t e : TypeId} {w : World} {r : Nat} {es : Array MapEntry} {clock : Nat}
end
section
variable {P : Program} {o : Oper} {st : St} {K : St → Prop} {α : Type} [KeyV α]
end
/-- Three numbers. -/
instance : KeyV Go.PB.PlaceD where
 kv x := .agg #[.int .i64 x.ch, .int .i64 x.ln, .int .i64 x.wd]
 kc x := .agg [.v (.int .i64 x.ch), .v (.int .i64 x.ln), .v (.int .i64 x.wd)]
 inv h := by
  obtain ⟨vs, rfl, h1, _⟩ := h.agg_inv
  match vs, h1 with
  | [a, b, c], h1 =>
   have e1 := (h1.2 0 _ _ rfl rfl).v_inv
   have e2 := (h1.2 1 _ _ rfl rfl).v_inv
   have e3 := (h1.2 2 _ _ rfl rfl).v_inv
   subst e1; subst e2; subst e3; rfl
  | [], h => exact absurd h.1 (by simp)
  | [_], h => exact absurd h.1 (by simp)
  | [_, _], h => exact absurd h.1 (by simp)
  | _ :: _ :: _ :: _ :: _, h => exact absurd h.1 (by simp)
 inj h := by
  rename_i x y
  obtain ⟨a, b, c⟩ := x
  obtain ⟨d, e, f⟩ := y
  simpa using h
 any {E w x v} h E' w' := by
  obtain ⟨vs, rfl, h1, _⟩ := h.agg_inv
  match vs, h1 with
  | [a, b, c], h1 =>
   have e1 := h1.2 0 _ _ rfl rfl
   have e2 := h1.2 1 _ _ rfl rfl
   have e3 := h1.2 2 _ _ rfl rfl
   cases e1 with | v e1 =>
   cases e2 with | v e2 =>
   cases e3 with | v e3 =>
   exact (Rs.cons (.v e1) (Rs.cons (.v e2) (Rs.cons (.v e3) Rs.nil))).agg (by intro c hc; simp only [List.mem_cons, List.not_mem_nil, or_false] at hc; rcases hc with rfl | rfl | rfl <;> rfl)
  | [], h => exact absurd h.1 (by simp)
  | [_], h => exact absurd h.1 (by simp)
  | [_, _], h => exact absurd h.1 (by simp)
  | _ :: _ :: _ :: _ :: _, h => exact absurd h.1 (by simp)
end Go.AB
namespace Go.AB
open Go Go.RowKit
open Go.PB (bg aj PlaceD bn bq bp)
def ue0 (P : Program) (k u : TypeId) : Bool := match P.underlying k with
 | some (.struct fs) => (match fs.toList with
  | [a, b, c] => a.type == u && b.type == u && c.type == u && a.offset == 0 && b.offset == 1 && c.offset == 2 && fs.all (·.name != "_")
  | _ => false)
 | _ => false
theorem key3 {P : Program} {k u : TypeId} (h : ue0 P k u = true) (hu : P.underlying u = some (.int .i64)) (h3 : P.cellsOf k = 3) (h1 : P.cellsOf u = 1) (hk : P.keyType k = true) (hm : ∃ m, P.types.size = m + 3) {x y z : Int} (hx : (Lit.int .i64 x).wf = true) (hy : (Lit.int .i64 y).wf = true) (hz : (Lit.int .i64 z).wf = true) : ∃ l, keyOf P k (.agg #[.int .i64 x, .int .i64 y, .int .i64 z]) = some l := by
 obtain ⟨m, hm⟩ := hm
 unfold ue0 at h
 split at h
 ·rename_i fs hfs
  split at h
  ·rename_i a b c habc
   simp only [Bool.and_eq_true, beq_iff_eq] at h
   obtain ⟨⟨⟨⟨⟨⟨e1, e2⟩, e3⟩, e4⟩, e5⟩, e6⟩, e7⟩ := h
   have hf : (Value.agg #[.int .i64 x, .int .i64 y, .int .i64 z]).formed P k = true := by simp [Value.formed, hfs, h3]
   refine ⟨.string (keyBytes [.int .i64 x, .int .i64 y, .int .i64 z]), ?_⟩
   unfold keyOf
   rw [hfs]
   simp only [hk, hf, Bool.and_self, if_true]
   have hl : P.keyLits (P.types.size + 1) k (Value.agg #[.int .i64 x, .int .i64 y, .int .i64 z]).cells.toList = some [.int .i64 x, .int .i64 y, .int .i64 z] := by
    rw [hm]
    unfold Program.keyLits
    simp only [hfs, h3, h1, e1, e2, e3, e4, e5, e6, e7, habc, Value.cells]
    unfold Program.keyLits
    simp [hu, h1, e1, e2, e3, e4, e5, e6, hx, hy, hz]
   rw [hl]
   rfl
  ·cases h
 ·cases h
end Go.AB
namespace Go.Proofs.YtgffhbbcpgdjjaaGreatDoor
set_option maxRecDepth 10000
open Go Go.RowKit Go.AB
open Go.PB (bg aj PlaceD bn bq bp)
theorem ukb : Go.Maps.Keyed Tryz.prog 41 := Go.Maps.Keyed.of_law (deep_law_laid uac (m := 2) (by omega) (of_decide_eq_true (by kernel_rfl)) (by kernel_rfl) (by kernel_rfl))
instance : KeyT Tryz.prog 41 PlaceD where
 keyed := ukb
 has {E w x v} h := by
  obtain ⟨vs, rfl, h1, _⟩ := R.agg_inv h
  match vs, h1 with
  | [a, b, c], h1 => exact key3 (u := 3) (by kernel_rfl) yn (by kernel_rfl) (by kernel_rfl) (by kernel_rfl) ul5 (xc (xh (h1.2 0 _ _ rfl rfl))) (xc (xh (h1.2 1 _ _ rfl rfl))) (xc (xh (h1.2 2 _ _ rfl rfl)))
  | [], h => exact absurd h.1 (by simp)
  | [_], h => exact absurd h.1 (by simp)
  | [_, _], h => exact absurd h.1 (by simp)
  | _ :: _ :: _ :: _ :: _, h => exact absurd h.1 (by simp)
end Go.Proofs.YtgffhbbcpgdjjaaGreatDoor
namespace Go.AB
open Go Go.RowKit
open Go.AB.Enc (cells)
open Go.PB (bg aj PlaceD bn bq bp ck az ak dc ce dr dv)
/-- who is found, as a map -/
def gz (f : PlaceD → Bool) : PlaceD → Option C := fun q => bif f q then some (.v (.bool true)) else none
theorem udi (f : PlaceD → Bool) (q : PlaceD) : (gz f q).getD (o6 (.bool false)) = .v (.bool (f q)) := by
 unfold gz
 cases f q <;> rfl
theorem uld : gz (fun q => decide (q ∈ ([] : List PlaceD))) = fun _ => none := by funext q; simp [gz]
theorem ule {F : List PlaceD} {k : Nat} {q : PlaceD} (h : F[k]? = some q) : kd (gz fun x => decide (x ∈ F.take k)) q (.v (.bool true)) = gz fun x => decide (x ∈ F.take (k + 1)) := by
 funext x
 unfold kd gz
 have hm : decide (x ∈ F.take (k + 1)) = (decide (x ∈ F.take k) || decide (x = q)) := by
  rw [List.take_add_one, h, Option.toList_some, Bool.eq_iff_iff]; simp
 dsimp only
 by_cases e : x = q
 ·rw [hm, decide_eq_true e, Bool.or_true, if_pos e]; rfl
 rw [hm, decide_eq_false e, Bool.or_false, if_neg e]
theorem udh {F W : List PlaceD} (hW : W.Nodup) {k : Nat} {q : PlaceD} (h : W[k]? = some q) (hq : q ∈ F) : qn (gz (gr F (W.take k))) q = gz (gr F (W.take (k + 1))) := by
 funext x
 unfold qn gz
 rw [udj hW h x]
 by_cases e : x = q
 ·rw [if_pos e, decide_eq_true e, decide_eq_true hq]; rfl
 rw [if_neg e, decide_eq_false e]; rfl
theorem udg {F W : List PlaceD} (hW : W.Nodup) {k : Nat} {q : PlaceD} (h : W[k]? = some q) (hq : q ∉ F) : kd (gz (gr F (W.take k))) q (.v (.bool true)) = gz (gr F (W.take (k + 1))) := by
 funext x
 unfold kd gz
 rw [udj hW h x]
 by_cases e : x = q
 ·rw [if_pos e, decide_eq_true e, decide_eq_false hq]; rfl
 rw [if_neg e, decide_eq_false e]; rfl
theorem onceM_ne {f : PlaceD → Bool} {q : PlaceD} : gz f q ≠ none ↔ f q = true := by
 unfold gz
 cases f q <;> simp
theorem zp {f : PlaceD → Bool} {q : PlaceD} {c : C} (h : gz f q = some c) : c = .v (.bool true) := by
 unfold gz at h
 cases hf : f q <;> rw [hf] at h
 ·cases h
 cases h; rfl
theorem nl (f : PlaceD → Bool) (n : Nat) : ∀ x c, gz f x = some c → C.low n c := fun x c h => by rw [zp h]; exact .v
def uk (ks done : List PlaceD) : Nat := (ks.filter fun y => decide (y ∉ done)).length
theorem ued {ks done : List PlaceD} {y : PlaceD} (hy : y ∈ ks) (hn : y ∉ done) : uk ks (done ++ [y]) < uk ks done := by
 unfold uk
 induction ks with
 | nil => cases hy
 | cons z ks ih =>
  have hle : (ks.filter fun y' => decide (y' ∉ done ++ [y])).length ≤ (ks.filter fun y' => decide (y' ∉ done)).length := by
   rw [← List.countP_eq_length_filter, ← List.countP_eq_length_filter]
   refine List.countP_mono_left fun a _ ha => ?_
   simp only [decide_eq_true_eq, List.mem_append, not_or] at ha ⊢
   exact ha.1
  by_cases e : z = y
  ·subst e
   rw [List.filter_cons_of_neg (by simp), List.filter_cons_of_pos (by simpa using hn)]
   simp only [List.length_cons]
   omega
  have hy' : y ∈ ks := by
   rcases List.mem_cons.1 hy with h | h
   ·exact absurd h.symm e
   exact h
  have := ih hy'
  by_cases hz : z ∈ done
  ·rw [List.filter_cons_of_neg (by simp [hz]), List.filter_cons_of_neg (by simp [hz])]
   exact this
  rw [List.filter_cons_of_pos (by simp [hz, e]), List.filter_cons_of_pos (by simp [hz])]
  simp only [List.length_cons]
  omega
theorem uf9 {p : ak} {x : az} {q : PlaceD} {k : Nat} {last : Int} (hp : me p last x) (hB : eb p.text x = []) (hq : x.well[k]? = some q) : q ∉ x.found := fun hf => by
 have : q ∈ eb p.text x := by
  show q ∈ (dn p.text).filter _
  rw [List.mem_filter, Bool.and_eq_true, decide_eq_true_eq, decide_eq_true_eq, allQ_mem]
  exact ⟨(lz hp.found hf).1, hf, List.mem_of_getElem? hq⟩
 rw [hB] at this; cases this
theorem udd {p : PlaceD → Prop} : Ord3 p l9 := by
 have key : ∀ a b, l9 a b < 0 ↔ ltW (dl a) (dl b) := fun a b => n3 (by rfl)
 refine ⟨fun x _ => ?_, fun x y z _ _ _ h k => ?_, fun x y z _ _ _ h k => ?_⟩
 ·rw [key]; exact po _
 ·rw [key] at h k ⊢; exact r6 h k
 rw [key] at h k ⊢
 intro hxz
 by_cases h1 : ltW (dl y) (dl x)
 ·exact k (r6 h1 hxz)
 rw [uaa (a := dl x) (b := dl y) rfl h h1] at hxz; exact k hxz
def PBd9 (q : PlaceD) : Prop := (0 ≤ q.ch ∧ q.ch ≤ 100000) ∧ (0 ≤ q.ln ∧ q.ln ≤ 100000) ∧ 0 ≤ q.wd ∧ q.wd ≤ 100000
theorem PBd9.plain {a : PlaceD} (h : PBd9 a) : Plain (cells a) := fun c hc => by
 obtain ⟨h1, h2, h3⟩ := h
 have hc' : c ∈ [C.v (.int .i64 a.ch), C.v (.int .i64 a.ln), C.v (.int .i64 a.wd)] := hc
 simp only [List.mem_cons, List.not_mem_nil, or_false] at hc'
 rcases hc' with rfl | rfl | rfl
 ·exact ⟨_, rfl, jh (by omega)⟩
 ·exact ⟨_, rfl, jh (by omega)⟩
 exact ⟨_, rfl, jh (by omega)⟩
theorem ucx {t : aj} (ht : c7 t = true) {q : PlaceD} (h : f5 t q = true) : PBd9 q := by
 obtain ⟨l, hw, hw1, hw2⟩ := placeB_true.1 h
 have := ta ht hw
 exact ⟨by omega, by omega, by omega, by omega⟩
theorem ude {p : ak} {x : az} {last : Int} (hp : me p last x) {q : PlaceD} (h : gr x.found x.well q = true) : f5 p.text q = true := by
 unfold gr at h
 by_cases h1 : q ∈ x.found
 ·exact (lz hp.found h1).1
 by_cases h2 : q ∈ x.well
 ·exact (lz hp.well h2).1
 simp [h1, h2] at h
theorem udf {p : ak} {x : az} {last : Int} (hp : me p last x) (ht : c7 p.text = true) {done : List PlaceD} (h : ∀ q ∈ done, gr x.found x.well q = true) : ∀ q ∈ done, PBd9 q := fun q hq => ucx ht (ude hp (h q hq))
theorem uos {p : ak} {x : az} {last : Int} (_ : me p last x) (ht : c7 p.text = true) {q : PlaceD} (h : q ∈ eb p.text x) : PBd9 q := by
 have : q ∈ (dn p.text).filter _ := h
 exact ucx ht (allQ_mem.1 (List.mem_filter.1 this).1)
theorem wx {p : ak} {x : az} {last : Int} (hp : me p last x) {done : List PlaceD} (hn : done.Nodup) (h : ∀ q ∈ done, gr x.found x.well q = true) : done.length ≤ (dn p.text).length :=
 udo hn fun q hq => allQ_mem.2 (ude hp (h q hq))
section
variable {P : Program} {o : Oper} {st : St} {K : St → Prop}
/-- A slice that is nil is nil. -/
theorem uny {t t' e : TypeId} [Elt P t e] {x : Operand} {rows : List (List C)} (ho : o.op = .binOp .eql t x (.const (.slice none 0 0)) t') (hx : evC st x = .list rows .nil) (h : K (st.put o.dst (.v (.bool true)))) : EStep P o st K :=
 ld fun E w a hsim => by
  have hr := hx ▸ hsim.ev x
  obtain ⟨ad, cap, _, _, hv, h1, _, _, _, _, _, h7, z1, _⟩ := R.list_inv hr
  obtain ⟨rfl, rfl⟩ := z1 rfl
  have q1 := Elt.spec (P := P) (t := t) (e := e)
  refine ⟨.bool true, w, E, st.G, st.nx, .v (.bool true), ?_, Ev.refl E w, .v rfl, hsim.g, h⟩
  have hq := run_equal_slice_nil (P := P) w t e none rows.length 0 q1
  have he2 : a.eval (.const (.slice none 0 0)) = .slice none 0 0 := rfl
  simp [execOp, ho, hv, he2, eqGuard, binOp, hq]
/-- .. one in which something is, is not. -/
theorem ufv {t t' e : TypeId} [Elt P t e] {x : Operand} {rows : List (List C)} {tok : Tok} (hne : rows ≠ []) (ho : o.op = .binOp .eql t x (.const (.slice none 0 0)) t') (hx : evC st x = .list rows tok) (h : K (st.put o.dst (.v (.bool false)))) : EStep P o st K :=
 ufw ho hx fun b hb => by rw [hb hne]; exact h
end
end Go.AB
namespace Go.Proofs.YtgffhbbcpgdjjaaGreatDoor
set_option maxRecDepth 10000
open Go Go.RowKit Go.AB
open Go.AB.Enc (cells)
open Go.PB (bg aj PlaceD bn bq bp ck az ak dc ce dr dv)
instance : Ty Tryz.prog (srt_Place_ren.t 24) true (Enc.n PlaceD) := inferInstanceAs (Ty Tryz.prog 41 true 3)
theorem uod : Pure Tryz.prog 88 [.list [] .nil] (.list [] .nil) := by
 refine di Tryz.func88 rfl (fun m => (.list (fun r hr => by cases hr) (fun k hk => by cases hk))) fun G nx => ?_
 simp only [Tryz.ntmps88, List.length_cons, List.length_nil, Nat.reduceAdd, Nat.reduceSub]
 refine cp fun hlt => ?_
 dsimp only at hlt
 refine yS fun _ K1 => ?_
 refine yR ?_
 refine yA rfl rfl ?_
 refine yN ?_
 dsimp only [St.put]
 refine K1 _ ?_
 refine yS fun _ K2 => ?_
 refine yS fun _ K3 => ?_
 refine yR ?_
 refine yM rfl rfl ?_
 refine af rfl (uny rfl rfl ?_)
 refine yN ?_
 dsimp only [St.put]
 refine K3 _ ?_
 refine bd rfl (fun hc => ?_) (fun hc => ?_)
 ·try replace hc := of_decide_eq_true hc
  refine yS fun _ K4 => ?_
  refine yR ?_
  refine yA rfl rfl ?_
  refine yN ?_
  dsimp only [St.put]
  refine K4 _ ?_
  refine bc ?_
  refine bx rfl (by constructor) zN zS ?_
  rfl
 try replace hc := of_decide_eq_false hc
 refine bi ?_
 refine K2 _ ?_
 refine yS fun _ K5 => ?_
 refine yR ?_
 try dsimp only [St.put]
 refine af rfl (xv rfl ?_)
 refine yM rfl rfl ?_
 try dsimp only [St.put]
 refine af rfl (uax rfl rfl (.inl rfl) rfl (show 1 ≤ 3 by decide) (fun r hr => by cases hr) (by simp) (by simp) ?_)
 refine yA rfl rfl ?_
 refine yN ?_
 dsimp only [St.put]
 refine K5 _ ?_
 refine bc ?_
 exact absurd hc (by decide)
theorem uoc (l : List PlaceD) (hne : l ≠ []) (hl : l.length ≤ 1000) (G : Nat → Option GObj) (nx : Nat) : PC Tryz.prog 88 [lst l] G nx fun r G' nx' => r = .own nx 0 l.length ∧ G' = ay G nx (.arr 0 0 41 3 l.length (dx l)) ∧ nx' = nx + 1 := by
 refine ix (ay G nx (.arr 0 0 41 3 l.length (dx l))) (nx + 1) Tryz.func88 rfl (.own (Nat.lt_succ_self _)) zN (fun hlt => (by (repeat' (refine lu ?_ (by (try dsimp only); omega) ?_)); all_goals (first | exact ly zS | (repeat' (first | exact trivial | refine ⟨?_, ?_⟩ | exact .v | exact .any | refine .elem ?_ | exact co _ _ | exact f8 _ _ | exact ey _ _ | exact ge _ (by (try dsimp only); omega) | exact .box (by (try dsimp only); omega) | exact fp | exact dj | exact ff _ | refine gj ?_ ?_ | exact .arr (by (try dsimp only); omega) | exact .own (by (try dsimp only); omega) | exact .map (by (try dsimp only); omega) | exact ff _ | refine ct ?_ ?_ | exact co _ _))))) ?_
 simp only [Tryz.ntmps88, List.length_cons, List.length_nil, Nat.reduceAdd, Nat.reduceSub]
 refine cp fun hlt => ?_
 dsimp only at hlt
 refine yS fun _ K1 => ?_
 refine yR ?_
 refine yA rfl rfl ?_
 refine yN ?_
 dsimp only [St.put]
 refine K1 _ ?_
 refine yS fun _ K2 => ?_
 refine yS fun _ K3 => ?_
 refine yR ?_
 refine yM rfl rfl ?_
 refine af rfl (ufv (fun e => hne (by simpa using e)) rfl rfl ?_)
 refine yN ?_
 dsimp only [St.put]
 refine K3 _ ?_
 refine bd rfl (fun hc => ?_) (fun hc => ?_)
 ·try replace hc := of_decide_eq_true hc
  refine yS fun _ K4 => ?_
  refine yR ?_
  refine yA rfl rfl ?_
  refine yN ?_
  dsimp only [St.put]
  refine K4 _ ?_
  refine bc ?_
  exact absurd hc (by decide)
 try replace hc := of_decide_eq_false hc
 refine bi ?_
 refine K2 _ ?_
 refine yS fun _ K5 => ?_
 refine yR ?_
 try dsimp only [St.put]
 refine af rfl (xv rfl ?_)
 refine yM rfl rfl ?_
 try dsimp only [St.put]
 refine af rfl (ufy l rfl rfl (.inl rfl) rfl rfl hne (by decide) (by omega) (by omega) ?_)
 refine yA rfl rfl ?_
 refine yN ?_
 dsimp only [St.put]
 refine K5 _ ?_
 refine bc ?_
 refine bx rfl (by constructor) zN zS ?_
 rfl
set_option maxHeartbeats 4000000 in
theorem ups (p : ak) (last : Int) (x : az) (ws : List Int) (al bo : List (List PlaceD)) (nB a1 a2 a3 V : Nat) (ht : c7 p.text = true) (hp : me p last x) (hw : ws.length ≤ 100) (ha : al.length ≤ 100) (hb : bo.length ≤ 100) (G : Nat → Option GObj) (nx : Nat) (hN : nB < nx) (h1 : a1 < nx) (h2 : a2 < nx) (h3 : a3 < nx) (d1 : nB ≠ a1) (d2 : nB ≠ a2) (d3 : nB ≠ a3) (d4 : a1 ≠ a2) (d5 : a1 ≠ a3) (d6 : a2 ≠ a3)
  (hGB : G nB = some (((.box (V) [lst p.text, lst p.firsts, lst p.seconds, lst p.pages, .list ((ws).map cells) (.tip a1), .list ((al).map cells) (.tip a2), .list ((bo).map cells) (.tip a3)])))) (hG1 : G a1 = some (.tip ws.length 3 1)) (hG2 : G a2 = some (.tip al.length 36 1)) (hG3 : G a3 = some (.tip bo.length 36 1)) :
  PC Tryz.prog 68 [.box nB 0 0, val x, lst (mh p.text p.text.length)] G nx fun r' G' nx' => r' = .tup [] ∧ G' = ay (ay (ay (ay G nB (((.box ((V + 1 + 1 + 1)) [lst p.text, lst p.firsts, lst p.seconds, lst p.pages, .list (((ws ++ [(fh p.text x : Int)])).map cells) (.tip a1), .list (((al ++ [et p.text x])).map cells) (.tip a2), .list (((bo ++ [eb p.text x])).map cells) (.tip a3)])))) a1 (.tip (ws ++ [(fh p.text x : Int)]).length 3 1)) a2 (.tip (al ++ [et p.text x]).length 36 1)) a3 (.tip (bo ++ [eb p.text x]).length 36 1) ∧ nx' = nx := by
 refine ix (ay (ay (ay (ay G nB (((.box ((V + 1 + 1 + 1)) [lst p.text, lst p.firsts, lst p.seconds, lst p.pages, .list (((ws ++ [(fh p.text x : Int)])).map cells) (.tip a1), .list (((al ++ [et p.text x])).map cells) (.tip a2), .list (((bo ++ [eb p.text x])).map cells) (.tip a3)])))) a1 (.tip (ws ++ [(fh p.text x : Int)]).length 3 1)) a2 (.tip (al ++ [et p.text x]).length 36 1)) a3 (.tip (bo ++ [eb p.text x]).length 36 1)) (nx) Tryz.func68 rfl (.tup dj) zN (fun hlt => zH) ?_
 simp only [Tryz.ntmps68, List.length_cons, List.length_nil, Nat.reduceAdd, Nat.reduceSub]
 refine cp fun hlt => ?_
 dsimp only at hlt
 obtain ⟨hl1, hl2, hl3⟩ := lj ht
 have hal := qc ht
 have hnd1 := y5 (xr hp.found)
 have hnd2 := y5 (xr hp.well)
 have hfl := px hp.found
 have hwl := px hp.well
 have hbl := ua6 p.text x
 have hgl := u6 p.text x
 have hwx := yk p.text x
 have hwt : ∀ (f : PlaceD → Bool) (l : List PlaceD), (l.filter f).length ≤ l.length := fun f l => List.length_filter_le f l
 have hstl := ub3 p.text p.text.length
 have hmw : x.well.take x.well.length = x.well := List.take_length
 refine yS fun _ K1 => ?_
 refine yR ?_
 try dsimp only [St.put]
 refine yB rfl rfl rfl ?_
 refine yN ?_
 dsimp only [St.put]
 refine K1 _ ?_
 refine yS fun _ K2 => ?_
 refine yR ?_
 refine yA rfl rfl ?_
 refine yN ?_
 dsimp only [St.put]
 rw [show (0 : Int) = ((jr p.text x (dn (p.text.take 0)) : Nat) : Int) from rfl]
 refine K2 _ ?_
 refine yS fun _ K3 => ?_
 refine yS fun _ K4 => ?_
 refine yR ?_
 refine yM rfl rfl ?_
 refine aa rfl (jn rfl rfl) ?_
 refine aa rfl (cr rfl rfl) ?_
 refine aa rfl (cr rfl rfl) ?_
 refine aa rfl (cr rfl rfl) ?_
 try dsimp only [St.put]
 refine ae rfl (bz rfl rfl zG trivial (by first | rfl | assumption)) ?_
 refine aa rfl (bj rfl rfl (List.length_map _)) ?_
 refine yM rfl rfl ?_
 refine yN ?_
 dsimp only [St.put]
 refine K4 _ ?_
 refine cb ?_
 refine dh 27 ?_
 refine zQ ?_
 refine dz (X := Nat) (fun k => k ≤ p.text.length) (fun k => p.text.length - k) (fun k => [(6, .v (.int .i64 ((jr p.text x (dn (p.text.take k)) : Nat) : Int))), (7, .any), (8, .any), (9, .any), (10, .any), (26, .v (.int .i64 (k : Int)))]) (fun k G' => G') 0 rfl ?_ ?_ (fun _ _ h => h) ?_ ?_ ?_
 ·exact Nat.zero_le _
 ·exact zF
 ·rintro k hI
  exact zL
 ·exact fun _ _ _ _ h => .inl h
 rintro k hI
 dsimp only at hI ⊢
 refine yS fun _ K5 => ?_
 refine yR ?_
 refine aa rfl (c5 rfl rfl rfl) ?_
 refine yN ?_
 dsimp only [St.put]
 refine K5 _ ?_
 refine yS fun _ K6 => ?_
 refine bd rfl (fun hc => ?_) (fun hc => ?_)
 ·replace hc := of_decide_eq_true hc
  obtain ⟨c, hcx⟩ : ∃ c, p.text[k]? = some c := d8 (by omega)
  have hll := (hl3 c (g5 hcx)).2.1
  have hwo := (hl3 c (g5 hcx)).2.2
  have hst := ub4 (t := p.text) (k := p.text.length) (i := k) (by omega)
  have hsb := vz ht k (by omega)
  refine bi ?_
  refine K6 _ ?_
  refine yS fun _ K7 => ?_
  refine cb ?_
  refine yS fun _ K8 => ?_
  refine yR ?_
  refine yM rfl rfl ?_
  refine aa rfl (bk rfl rfl rfl rfl (bu (by assumption)) (Enc.len _)) ?_
  refine yE rfl rfl rfl ?_
  try dsimp only [St.put]
  refine af rfl (dt rfl ?_)
  refine yA rfl rfl ?_
  try dsimp only [St.put]
  refine af rfl (da rfl rfl rfl zG rfl rfl (by rfl) ?_)
  refine yN ?_
  dsimp only [St.put]
  refine K8 _ ?_
  refine gl (i := 8) rfl zG zC ?_
  dsimp only
  refine yS fun _ K9 => ?_
  refine yR ?_
  refine yF rfl rfl rfl rfl ?_
  refine yL rfl rfl rfl ?_
  refine aa rfl (bj rfl rfl (List.length_map _)) ?_
  refine yM rfl rfl ?_
  refine yN ?_
  dsimp only [St.put]
  rw [upb p.text k c.lines]
  refine K9 _ ?_
  refine cb ?_
  refine dh 35 ?_
  refine zQ ?_
  refine dz (X := Nat) (fun n => n ≤ c.lines.length) (fun n => c.lines.length - n) (fun n => [(6, .v (.int .i64 ((jr p.text x (i2 p.text k c.lines n) : Nat) : Int))), (9, .any), (10, .any), (34, .v (.int .i64 (n : Int)))]) (fun n G' => G') 0 rfl ?_ ?_ (fun _ _ h => h) ?_ ?_ ?_
  ·exact Nat.zero_le _
  ·exact zF
  ·rintro n hI
   exact zL
  ·exact fun _ _ _ _ h => .inl h
  rintro n hJ
  dsimp only at hJ ⊢
  refine yS fun _ K10 => ?_
  refine yR ?_
  refine aa rfl (c5 rfl rfl rfl) ?_
  refine yN ?_
  dsimp only [St.put]
  refine K10 _ ?_
  refine yS fun _ K11 => ?_
  refine bd rfl (fun hc => ?_) (fun hc => ?_)
  ·replace hc := of_decide_eq_true hc
   obtain ⟨l, hn⟩ : ∃ l, c.lines[n]? = some l := d8 (by omega)
   have hlb := hwo l (g5 hn)
   have hqb : jr p.text x (i2 p.text k c.lines n) ≤ 600 := by
    have hle := upa ht hcx hn 0
    rw [← uo9] at hle
    have := hwt (em p.text x) (i2 p.text k c.lines n)
    unfold jr
    omega
   refine bi ?_
   refine K11 _ ?_
   refine yS fun _ K12 => ?_
   refine cb ?_
   refine yS fun _ K13 => ?_
   refine yR ?_
   refine yM rfl rfl ?_
   refine aa rfl (bk rfl rfl rfl rfl (bu (by assumption)) (Enc.len _)) ?_
   refine yL rfl rfl rfl ?_
   refine yA rfl rfl ?_
   refine yA rfl rfl ?_
   refine yN ?_
   dsimp only [St.put]
   refine K13 _ ?_
   refine yS fun _ K14 => ?_
   refine g8 [(0, none), (1, none), (2, none), (3, none), (4, none), (5, none), (6, none), (7, none), (8, none), (9, none), (10, none), (11, none)] (fun i => [11].contains i) (fun i => [10, 11].contains i) (fun i => [0, 2, 4, 5, 6, 8, 9].contains i) [] (by kernel_rfl) (by kernel_rfl) ?_
   refine ah rfl rfl rfl rfl (br rfl rfl rfl) ?_
   try dsimp only [St.put]
   refine ai rfl rfl rfl rfl (bh rfl rfl) ?_
   refine ah rfl rfl rfl rfl (br rfl rfl rfl) ?_
   try dsimp only [St.put]
   refine ai rfl rfl rfl rfl (bh rfl rfl) ?_
   refine xM rfl rfl rfl rfl rfl ?_
   refine xM rfl rfl rfl rfl rfl ?_
   try dsimp only [St.put]
   refine ah rfl rfl rfl rfl (bk rfl rfl rfl rfl (bu (by assumption)) (Enc.len _)) ?_
   try dsimp only [St.put]
   refine ai rfl rfl rfl rfl (bh rfl rfl) ?_
   refine xM rfl rfl rfl rfl rfl ?_
   refine ah rfl rfl rfl rfl (cm rfl rfl rfl (by omega)) ?_
   refine j4 ?_
   try dsimp only [St.put]
   refine lg rfl rfl rfl (el rfl rfl rfl (by decide) (by decide) zR (by decide) ⟨zD, ?_⟩)
   try dsimp only [St.put]
   refine gg rfl rfl rfl rfl (bl rfl rfl rfl (nk _ _ [_]) ?_)
   refine j3 ?_
   dsimp only [St.put]
   refine K14 _ ?_
   refine bd rfl (fun hc => ?_) (fun hc => ?_)
   ·have hpg : inB ((gi p.text k : Int) + (n : Int)) x.fr x.to = true := by rw [gu] at hc; exact hc
    refine yR ?_
    refine yM rfl rfl ?_
    refine yM rfl rfl ?_
    refine aa rfl (bj rfl rfl (List.length_map _)) ?_
    refine aa rfl (cm rfl rfl rfl (by omega)) ?_
    refine yA rfl rfl ?_
    refine yN ?_
    dsimp only [St.put]
    refine K12 _ ?_
    refine yR ?_
    refine aa rfl (cm rfl rfl rfl (by omega)) ?_
    refine yM rfl rfl ?_
    refine yN ?_
    dsimp only [St.put]
    have e := ubt p.text x (k := k) hn
    first
    | (rw [hpg, cond_true] at e
       rw [show ((jr p.text x (i2 p.text k c.lines n) : Nat) : Int) + (l.length : Int) = ((jr p.text x (i2 p.text k c.lines (n + 1)) : Nat) : Int) by rw [e]; rfl]
       exact ⟨n + 1, by omega, by omega, ⟨⟨rfl, rfl⟩, zF, zB, zN, zX⟩⟩)
    | (rw [hpn, cond_false] at e
       rw [show jr p.text x (i2 p.text k c.lines n) = jr p.text x (i2 p.text k c.lines (n + 1)) from e.symm]
       exact ⟨n + 1, by omega, by omega, ⟨⟨rfl, rfl⟩, zF, zB, zN, zX⟩⟩)
   have hpn : inB ((gi p.text k : Int) + (n : Int)) x.fr x.to = false := by rw [gu] at hc; exact hc
   refine bi ?_
   refine K12 _ ?_
   refine yR ?_
   refine aa rfl (cm rfl rfl rfl (by omega)) ?_
   refine yM rfl rfl ?_
   refine yN ?_
   dsimp only [St.put]
   have e := ubt p.text x (k := k) hn
   first
   | (rw [hpg, cond_true] at e
      rw [show ((jr p.text x (i2 p.text k c.lines n) : Nat) : Int) + (l.length : Int) = ((jr p.text x (i2 p.text k c.lines (n + 1)) : Nat) : Int) by rw [e]; rfl]
      exact ⟨n + 1, by omega, by omega, ⟨⟨rfl, rfl⟩, zF, zB, zN, zX⟩⟩)
   | (rw [hpn, cond_false] at e
      rw [show jr p.text x (i2 p.text k c.lines n) = jr p.text x (i2 p.text k c.lines (n + 1)) from e.symm]
      exact ⟨n + 1, by omega, by omega, ⟨⟨rfl, rfl⟩, zF, zB, zN, zX⟩⟩)
  replace hc := of_decide_eq_false hc
  refine dq ?_
  refine K7 _ ?_
  refine yR ?_
  refine aa rfl (cm rfl rfl rfl (by omega)) ?_
  refine yM rfl rfl ?_
  refine yN ?_
  dsimp only [St.put]
  rw [upc (n := n) hcx (by omega)]
  exact ⟨k + 1, by omega, by omega, ⟨⟨rfl, rfl⟩, zF, zB, zN, zX⟩⟩
 replace hc := of_decide_eq_false hc
 obtain rfl : k = p.text.length := by omega
 rw [List.take_length, uho]
 refine dq ?_
 refine K3 _ ?_
 refine yS fun _ K15 => ?_
 refine yR ?_
 try dsimp only [St.put]
 refine af rfl (uau (α := PlaceD) rfl ?_)
 refine yA rfl rfl ?_
 refine yN ?_
 dsimp only [St.put]
 refine K15 _ ?_
 refine yS fun _ K16 => ?_
 refine yS fun _ K17 => ?_
 refine yR ?_
 refine yF rfl rfl rfl rfl ?_
 refine yL rfl rfl rfl ?_
 refine aa rfl (bj rfl rfl (List.length_map _)) ?_
 refine yM rfl rfl ?_
 refine yN ?_
 dsimp only [St.put]
 refine K17 _ ?_
 refine cb ?_
 refine dh 62 ?_
 refine zQ ?_
 refine du ((ay G nx (i1 Tryz.prog 41 (0) ((fun _ => none))))) zX ?_
 dsimp only
 refine dz (X := Nat) (fun k => k ≤ x.found.length) (fun k => x.found.length - k) (fun k => [(13, .any), (61, .v (.int .i64 (k : Int)))]) (fun k G' => (ay G nx (i1 Tryz.prog 41 (k) ((gz fun q => decide (q ∈ x.found.take k)))))) 0 rfl ?_ ?_ ?_ ?_ ?_ ?_
 ·exact Nat.zero_le _
 ·exact zF
 ·rw [show (gz fun q => decide (q ∈ x.found.take 0)) = fun _ => none from uld]
  exact zX
 ·rintro k hI
  exact (by (try dsimp only); repeat' (first | exact trivial | refine ⟨?_, ?_⟩ | exact .v | exact .any | refine .elem ?_ | exact co _ _ | exact f8 _ _ | exact ey _ _ | exact ge _ (by (try dsimp only); omega) | exact .box (by (try dsimp only); omega) | exact fp | exact dj | exact i0 (nl _ _) | refine gj ?_ ?_ | exact .arr (by (try dsimp only); omega) | exact .own (by (try dsimp only); omega) | exact .map (by (try dsimp only); omega) | exact ff _ | refine ct ?_ ?_ | exact co _ _))
 ·rintro k hI
  exact (by (repeat' (refine lu ?_ (by (try dsimp only); omega) ?_)); all_goals (first | exact ly zS | (repeat' (first | exact trivial | refine ⟨?_, ?_⟩ | exact .v | exact .any | refine .elem ?_ | exact co _ _ | exact f8 _ _ | exact ey _ _ | exact ge _ (by (try dsimp only); omega) | exact .box (by (try dsimp only); omega) | exact fp | exact dj | exact i0 (nl _ _) | refine gj ?_ ?_ | exact .arr (by (try dsimp only); omega) | exact .own (by (try dsimp only); omega) | exact .map (by (try dsimp only); omega) | exact ff _ | refine ct ?_ ?_ | exact co _ _))))
 rintro k hK
 dsimp only at hK ⊢
 refine yS fun _ K18 => ?_
 refine yR ?_
 refine aa rfl (c5 rfl rfl rfl) ?_
 refine yN ?_
 dsimp only [St.put]
 refine K18 _ ?_
 refine yS fun _ K19 => ?_
 refine bd rfl (fun hc => ?_) (fun hc => ?_)
 ·replace hc := of_decide_eq_true hc
  obtain ⟨q, hq⟩ : ∃ q, x.found[k]? = some q := d8 (by omega)
  refine bi ?_
  refine K19 _ ?_
  refine yS fun _ K20 => ?_
  refine cb ?_
  refine yS fun _ K21 => ?_
  refine yR ?_
  refine aa rfl (bk rfl rfl rfl rfl (bu (by assumption)) (Enc.len _)) ?_
  refine yE rfl rfl rfl ?_
  try dsimp only [St.put]
  refine af rfl (dt rfl ?_)
  try dsimp only [St.put]
  refine af rfl (da rfl rfl rfl zG rfl rfl (by rfl) ?_)
  refine yN ?_
  dsimp only [St.put]
  refine K21 _ ?_
  refine gl (i := 13) rfl zG zC ?_
  dsimp only
  refine yR ?_
  refine yM rfl rfl ?_
  refine yE rfl rfl rfl ?_
  try dsimp only [St.put]
  refine af rfl (vd (q) rfl rfl rfl zG rfl (ule hq) ?_)
  refine yN ?_
  dsimp only [St.put]
  refine K20 _ ?_
  refine yR ?_
  refine aa rfl (cm rfl rfl rfl (by omega)) ?_
  refine yM rfl rfl ?_
  refine yN ?_
  dsimp only [St.put]
  exact ⟨k + 1, by omega, by omega, ⟨⟨rfl, rfl⟩, zF, zB, zN, zX⟩⟩
 replace hc := of_decide_eq_false hc
 obtain rfl : k = x.found.length := by omega
 rw [List.take_length, show (fun q => decide (q ∈ x.found)) = gr x.found (x.well.take 0) from funext fun q => (ulf x.found q).symm]
 refine dq ?_
 refine K16 _ ?_
 refine yS fun _ K22 => ?_
 by_cases hB : eb p.text x = []
 ·refine yR ?_
  refine yA rfl rfl ?_
  refine yN ?_
  dsimp only [St.put]
  refine K22 _ ?_
  refine yS fun _ K23 => ?_
  refine yS fun _ K24 => ?_
  refine yR ?_
  refine yF rfl rfl rfl rfl ?_
  refine yL rfl rfl rfl ?_
  refine aa rfl (bj rfl rfl (List.length_map _)) ?_
  refine yM rfl rfl ?_
  refine yN ?_
  dsimp only [St.put]
  refine K24 _ ?_
  refine cb ?_
  refine dh 72 ?_
  refine zQ ?_
  refine du ((ay G nx (i1 Tryz.prog 41 (x.found.length) ((gz (gr x.found (x.well.take 0))))))) zX ?_
  dsimp only
  refine dz (X := Nat) (fun k => k ≤ x.well.length) (fun k => x.well.length - k) (fun k => [(16, .any), (71, .v (.int .i64 (k : Int)))]) (fun k G' => (ay G nx (i1 Tryz.prog 41 ((x.found.length + k)) ((gz (gr x.found (x.well.take k))))))) 0 rfl ?_ ?_ ?_ ?_ ?_ ?_
  ·exact Nat.zero_le _
  ·exact zF
  ·exact zX
  ·rintro k hI
   exact (by (try dsimp only); repeat' (first | exact trivial | refine ⟨?_, ?_⟩ | exact .v | exact .any | refine .elem ?_ | exact co _ _ | exact f8 _ _ | exact ey _ _ | exact ge _ (by (try dsimp only); omega) | exact .box (by (try dsimp only); omega) | exact fp | exact dj | exact i0 (nl _ _) | refine gj ?_ ?_ | exact .arr (by (try dsimp only); omega) | exact .own (by (try dsimp only); omega) | exact .map (by (try dsimp only); omega) | exact ff _ | refine ct ?_ ?_ | exact co _ _))
  ·rintro k hI
   exact (by (repeat' (refine lu ?_ (by (try dsimp only); omega) ?_)); all_goals (first | exact ly zS | (repeat' (first | exact trivial | refine ⟨?_, ?_⟩ | exact .v | exact .any | refine .elem ?_ | exact co _ _ | exact f8 _ _ | exact ey _ _ | exact ge _ (by (try dsimp only); omega) | exact .box (by (try dsimp only); omega) | exact fp | exact dj | exact i0 (nl _ _) | refine gj ?_ ?_ | exact .arr (by (try dsimp only); omega) | exact .own (by (try dsimp only); omega) | exact .map (by (try dsimp only); omega) | exact ff _ | refine ct ?_ ?_ | exact co _ _))))
  rintro k hK
  dsimp only at hK ⊢
  refine yS fun _ K25 => ?_
  refine yR ?_
  refine aa rfl (c5 rfl rfl rfl) ?_
  refine yN ?_
  dsimp only [St.put]
  refine K25 _ ?_
  refine yS fun _ K26 => ?_
  refine bd rfl (fun hc => ?_) (fun hc => ?_)
  ·replace hc := of_decide_eq_true hc
   obtain ⟨q, hq⟩ : ∃ q, x.well[k]? = some q := d8 (by omega)
   have hbt := ugb x.found x.well k
   refine bi ?_
   refine K26 _ ?_
   refine yS fun _ K27 => ?_
   refine cb ?_
   refine yS fun _ K28 => ?_
   refine yR ?_
   refine aa rfl (bk rfl rfl rfl rfl (bu (by assumption)) (Enc.len _)) ?_
   refine yE rfl rfl rfl ?_
   try dsimp only [St.put]
   refine af rfl (dt rfl ?_)
   try dsimp only [St.put]
   refine af rfl (da rfl rfl rfl zG rfl rfl (by rfl) ?_)
   refine yN ?_
   dsimp only [St.put]
   refine K28 _ ?_
   refine gl (i := 16) rfl zG zC ?_
   dsimp only
   refine yS fun _ K29 => ?_
   refine yR ?_
   refine yM rfl rfl ?_
   refine yE rfl rfl rfl ?_
   try dsimp only [St.put]
   refine ae rfl (we q rfl rfl zG trivial rfl (udi _ _)) ?_
   refine yN ?_
   dsimp only [St.put]
   refine K29 _ ?_
   refine bd rfl (fun hc => ?_) (fun hc => ?_)
   ·have hin : q ∈ x.found := by
     rw [wy hnd2 hq] at hc
     exact of_decide_eq_true hc
    refine yS fun _ K30 => ?_
    refine yR ?_
    refine yM rfl rfl ?_
    refine yE rfl rfl rfl ?_
    try dsimp only [St.put]
    refine af rfl (el rfl rfl rfl (by decide) (by decide) zR (by decide) ?_)
    try dsimp only [St.put]
    refine af rfl (uax rfl rfl (.inr rfl) rfl (show 1 ≤ 3 by decide) (fun r hr => by rw [List.mem_singleton] at hr; subst hr; rfl) (by simp) (by simp) ?_)
    refine yA rfl rfl ?_
    refine yN ?_
    dsimp only [St.put]
    refine K30 _ ?_
    refine yR ?_
    refine yM rfl rfl ?_
    refine yE rfl rfl rfl ?_
    try dsimp only [St.put]
    refine af rfl (ufx q rfl rfl zG rfl (udh hnd2 hq hin) ?_)
    refine yN ?_
    dsimp only [St.put]
    refine K27 _ ?_
    refine yR ?_
    refine aa rfl (cm rfl rfl rfl (by omega)) ?_
    refine yM rfl rfl ?_
    refine yN ?_
    dsimp only [St.put]
    first
    | exact absurd (show q ∈ x.found from hin) (uf9 hp hB hq)
    | exact ⟨k + 1, by omega, by omega, ⟨⟨rfl, rfl⟩, zF, zB, zN, zX⟩⟩
   have hout : q ∉ x.found := by
    rw [wy hnd2 hq] at hc
    exact of_decide_eq_false hc
   refine yR ?_
   refine yM rfl rfl ?_
   refine yE rfl rfl rfl ?_
   try dsimp only [St.put]
   refine af rfl (vd (q) rfl rfl rfl zG rfl (udg hnd2 hq hout) ?_)
   refine yN ?_
   dsimp only [St.put]
   refine K27 _ ?_
   refine yR ?_
   refine aa rfl (cm rfl rfl rfl (by omega)) ?_
   refine yM rfl rfl ?_
   refine yN ?_
   dsimp only [St.put]
   first
   | exact absurd (show q ∈ x.found from hin) (uf9 hp hB hq)
   | exact ⟨k + 1, by omega, by omega, ⟨⟨rfl, rfl⟩, zF, zB, zN, zX⟩⟩
  replace hc := of_decide_eq_false hc
  obtain rfl : k = x.well.length := by omega
  refine dq ?_
  refine K23 _ ?_
  refine yS fun _ K31 => ?_
  refine yR ?_
  refine yM rfl rfl ?_
  try dsimp only [St.put]
  refine af rfl (bl rfl rfl rfl (uod) ?_)
  refine yA rfl rfl ?_
  refine yN ?_
  dsimp only [St.put]
  refine K31 _ ?_
  refine ugr 17 41 3 rfl (by decide) ?_
  dsimp only
  refine yS fun _ K32 => ?_
  refine yS fun _ K33 => ?_
  refine yR ?_
  refine yM rfl rfl ?_
  try dsimp only [St.put]
  refine af rfl (uft rfl rfl zG fun r β cl ks hnd hks0 hinj => ?_)
  refine yN ?_
  dsimp only [St.put]
  refine K33 _ ?_
  rw [hmw] at hks0
  rw [hmw]
  refine cb ?_
  refine dh 91 ?_
  refine zQ ?_
  refine du (ay (ay (ay (ay G nx (o5 Tryz.prog 41 (x.found.length + x.well.length) (gz (gr x.found x.well)) β cl)) (nx + 1) (.arr 0 0 41 3 0 [])) (nx + 1 + 1) (.raw 0 (.mapIter (some r) cl (jg β ([] : List PlaceD)) cl))) (nx + 1 + 1 + 1) (.fact (.map (some r)) (.map nx))) zX ?_
  dsimp only
  refine dz (X := List PlaceD × Nat × Nat × Nat) (fun y => (∀ z ∈ y.1, z ∈ ks) ∧ y.1.Nodup) (fun y => uk ks y.1) (fun y => [(17, .own (nx + 1) y.2.2.1 (([] : List PlaceD) ++ y.1).length), (18, .any)]) (fun y G' => (ay (ay (ay (ay G nx (o5 Tryz.prog 41 ((x.found.length + x.well.length)) (gz ((gr x.found x.well))) β cl)) ((nx + 1)) (.arr y.2.2.1 y.2.2.2 41 3 ((([] : List PlaceD) ++ y.1)).length (dx ((([] : List PlaceD) ++ y.1))))) ((nx + 1 + 1)) (.raw y.2.1 (.mapIter (some r) cl (jg β y.1) cl))) ((nx + 1 + 1 + 1)) (.fact (.map (some r)) (.map nx)))) ([], 0, 0, 0) rfl ?_ ?_ ?_ ?_ ?_ ?_
  ·exact ⟨fun z hz => by simp at hz, List.nodup_nil⟩
  ·exact zF
  ·exact zX
  ·rintro ⟨done, wi, vl, wv⟩ hI
   exact (by (try dsimp only); repeat' (first | exact trivial | refine ⟨?_, ?_⟩ | exact .v | exact .any | refine .elem ?_ | exact co _ _ | exact f8 _ _ | exact ey _ _ | exact ge _ (by (try dsimp only); omega) | exact .box (by (try dsimp only); omega) | exact fp | exact dj | exact xm (nl _ _) | exact ff _ | refine gj ?_ ?_ | exact .arr (by (try dsimp only); omega) | exact .own (by (try dsimp only); omega) | exact .map (by (try dsimp only); omega) | exact ff _ | refine ct ?_ ?_ | exact co _ _))
  ·rintro ⟨done, wi, vl, wv⟩ hI
   exact (by (repeat' (refine lu ?_ (by (try dsimp only); omega) ?_)); all_goals (first | exact ly zS | (repeat' (first | exact trivial | refine ⟨?_, ?_⟩ | exact .v | exact .any | refine .elem ?_ | exact co _ _ | exact f8 _ _ | exact ey _ _ | exact ge _ (by (try dsimp only); omega) | exact .box (by (try dsimp only); omega) | exact fp | exact dj | exact xm (nl _ _) | exact ff _ | refine gj ?_ ?_ | exact .arr (by (try dsimp only); omega) | exact .own (by (try dsimp only); omega) | exact .map (by (try dsimp only); omega) | exact ff _ | refine ct ?_ ?_ | exact co _ _))))
  rintro ⟨done, wi, vl, wv⟩ hI8
  dsimp only at hI8 ⊢
  refine yS fun _ K34 => ?_
  refine yR ?_
  try dsimp only [St.put]
  refine af rfl (ufu (done := done) rfl rfl zG zG zG (hks0) (hinj) (hI8.1) (fun hend => ?_) (fun y c hym hyk hyd => ?_))
  ·have hdl := wx hp hI8.2 (fun q hq => onceM_ne.1 ((hks0 q).2 (hI8.1 q hq)))
   have hdk : ∀ q, q ∈ done ↔ gr x.found x.well q = true := fun q => ⟨fun hq => onceM_ne.1 ((hks0 q).2 (hI8.1 q hq)), fun hq => hend q ((hks0 q).1 (onceM_ne.2 hq))⟩
   have hpb := udf hp ht (fun q hq => (hdk q).1 hq)
   refine yX rfl rfl rfl rfl ?_
   refine yN ?_
   dsimp only [St.put]
   refine K34 _ ?_
   refine yS fun _ K35 => ?_
   refine bd rfl (fun h => by cases h) (fun _ => ?_)
   refine dq ?_
   refine K32 _ ?_
   refine yS fun _ K36 => ?_
   have hpb2 : ∀ y ∈ ([] : List PlaceD) ++ done, PBd9 y := fun y hy => hpb y (by simpa using hy)
   refine yR ?_
   refine yM rfl rfl ?_
   try dsimp only [St.put]
   refine af rfl (ufs ub7 PBd9 l9 rfl rfl rfl rfl zG rfl rfl rfl (fun y hy => hy.plain) hpb2 (by first | (rw [List.length_append]; omega) | (simp only [List.nil_append]; omega)) (fun a b _ _ => zm a b _ _) udd (fun ys hperm hsort => ?_))
   refine yN ?_
   dsimp only [St.put]
   have hlen := hperm.length_eq
   rw [← hB] at hperm hlen
   obtain rfl := ugx hp hI8.2 hdk hperm hsort
   refine K36 _ ?_
   refine x7 14 (lst ([] : List PlaceD)) rfl Wk.tok ?_
   refine ubd 17 (et p.text x) rfl zG rfl rfl (by rw [hlen, hB]) ?_
   dsimp only
   refine ugq [(0, none), (1, none), (2, none), (3, none), (4, none), (5, none), (6, none), (7, none), (10, none), (11, none), (12, none), (13, none), (14, none), (17, none), (18, none), (19, none), (20, none), (21, none)] (fun i => [23, 26, 29, 32].contains i) (fun i => [0, 1, 2, 3, 4, 5, 7, 10, 11, 12, 14, 17, 18, 19, 21].contains i) 15 (rl [8, 2, 5, 2, 5, 11]) [nB] (by kernel_rfl) (by kernel_rfl) ?_
   refine xM rfl rfl rfl rfl rfl ?_
   refine xM rfl rfl rfl rfl rfl ?_
   refine xM rfl rfl rfl rfl rfl ?_
   refine xM rfl rfl rfl rfl rfl ?_
   refine ah rfl rfl rfl rfl (jn rfl rfl) ?_
   refine ah rfl rfl rfl rfl (cr rfl rfl) ?_
   try dsimp only [St.put]
   refine ai rfl rfl rfl rfl (bz rfl rfl zG (by simp) (by first | rfl | assumption)) ?_
   refine xM rfl rfl rfl rfl rfl ?_
   refine xM rfl rfl rfl rfl rfl ?_
   refine ah rfl rfl rfl rfl (jn rfl rfl) ?_
   refine ah rfl rfl rfl rfl (cr rfl rfl) ?_
   try dsimp only [St.put]
   refine ai rfl rfl rfl rfl (bz rfl rfl zG (by simp) (by first | rfl | assumption)) ?_
   refine xM rfl rfl rfl rfl rfl ?_
   refine xM rfl rfl rfl rfl rfl ?_
   refine ah rfl rfl rfl rfl (jn rfl rfl) ?_
   refine ah rfl rfl rfl rfl (cr rfl rfl) ?_
   try dsimp only [St.put]
   refine ai rfl rfl rfl rfl (bz rfl rfl zG (by simp) (by first | rfl | assumption)) ?_
   refine xM rfl rfl rfl rfl rfl ?_
   refine cz ⟨zD, ?_⟩
   dsimp only [St.put]
   refine ug1 ws al bo (fh p.text x : Int) (et p.text x) (([] : List PlaceD)) nB a1 a2 a3 _ rfl (by kernel_rfl) (by kernel_rfl) (by kernel_rfl) rfl rfl rfl rfl rfl rfl rfl rfl rfl rfl rfl rfl rfl zG zG zG zG d1 d2 d3 d4 d5 d6 hw ha hb ?_
   dsimp only
   refine sx [(24, none), (25, none)] 7 (rl [26, 7]) (by kernel_rfl) ?_
   refine ah rfl rfl rfl rfl (jn rfl rfl) ?_
   refine ah rfl rfl rfl rfl (cr rfl rfl) ?_
   refine cz ⟨zD, ?_⟩
   refine ra [26] (by kernel_rfl) (by simp) ?_
   refine sw ?_ ?_
   ·try dsimp only [St.put]
    refine sq rfl rfl rfl rfl (g7 rfl rfl rfl zG (by constructor) rfl zO ?_)
    refine sx [(27, none), (28, none)] 4 (rl [29, 4]) (by kernel_rfl) ?_
    refine ah rfl rfl rfl rfl (jn rfl rfl) ?_
    refine ah rfl rfl rfl rfl (cr rfl rfl) ?_
    refine cz ⟨zD, ?_⟩
    refine ra [29] (by kernel_rfl) (by simp) ?_
    refine sw ?_ ?_
    ·try dsimp only [St.put]
     refine sq rfl rfl rfl rfl (g7 rfl rfl rfl zG (by constructor) rfl zO ?_)
     refine sx [(30, none), (31, none)] 1 (rl [32, 1]) (by kernel_rfl) ?_
     refine ah rfl rfl rfl rfl (jn rfl rfl) ?_
     refine ah rfl rfl rfl rfl (cr rfl rfl) ?_
     refine cz ⟨zD, ?_⟩
     refine ra [32] (by kernel_rfl) (by simp) ?_
     refine sw ?_ ?_
     ·try dsimp only [St.put]
      refine sq rfl rfl rfl rfl (g7 rfl rfl rfl zG (by constructor) rfl zO ?_)
      dsimp only [St.put]
      refine ug2 (by kernel_rfl) ?_
      rw [hB]
      refine ufl rfl (.inl rfl) zN (ub0 zG zG zG zG fun n o q1 q2 q3 q4 h => ?_)
      have hn := hlt n o h
      (try dsimp only)
      repeat (first | exact h | rw [i5 (by omega)] | rw [mb (by omega)])
     exact sv
    exact sv
   exact sv
  have hz0 := zp hym
  subst hz0
  obtain ⟨z, hz⟩ : ∃ z, z = y := ⟨_, rfl⟩
  subst hz
  have hIn : ∀ z ∈ ks, ∀ x ∈ done ++ [z], x ∈ ks := fun z hz x hx => by
   rcases List.mem_append.1 hx with hx | hx
   ·exact hI8.1 x hx
   rw [List.mem_singleton] at hx; exact hx ▸ hz
  have hIu : ∀ z, z ∉ done → (done ++ [z]).Nodup := fun z hz => List.nodup_append.2 ⟨hI8.2, by simp, fun a ha b hb => by
   rw [List.mem_singleton] at hb; subst hb; exact fun e => hz (e ▸ ha)⟩
  have hdl := wx hp hI8.2 (fun q hq => onceM_ne.1 ((hks0 q).2 (hI8.1 q hq)))
  refine yX rfl rfl rfl rfl ?_
  refine yN ?_
  dsimp only [St.put]
  refine K34 _ ?_
  refine yS fun _ K37 => ?_
  refine bd rfl (fun _ => ?_) (fun h => by cases h)
  refine bi ?_
  refine K37 _ ?_
  refine cb ?_
  refine yS fun _ K38 => ?_
  refine yR ?_
  try dsimp only [St.put]
  refine ae rfl (uce (fx := nx + 1 + 1 + 1) (n := nx) rfl rfl zG trivial zG zG trivial (by assumption)) ?_
  refine yX rfl rfl rfl rfl ?_
  try dsimp only [St.put]
  refine af rfl (dt rfl ?_)
  try dsimp only [St.put]
  refine af rfl (da rfl rfl rfl zG rfl rfl (by rfl) ?_)
  refine yN ?_
  dsimp only [St.put]
  refine K38 _ ?_
  refine gl (i := 18) rfl zG zC ?_
  dsimp only
  refine yR ?_
  refine yM rfl rfl ?_
  try dsimp only [St.put]
  refine ae rfl (aq rfl rfl rfl) ?_
  try dsimp only [St.put]
  refine af rfl (el rfl rfl rfl (by decide) (by decide) zR (by decide) ?_)
  try dsimp only [St.put]
  refine af rfl (xx (xs := ([] : List PlaceD) ++ done) [z] rfl rfl zG rfl rfl rfl rfl zA zA (fun v3 => ?_))
  refine yA rfl rfl ?_
  refine yN ?_
  dsimp only [St.put]
  simp only [List.append_assoc]
  exact ⟨(done ++ [z], wi + 1, v3, wv), ued hyk hyd, ⟨hIn z hyk, hIu z hyd⟩, ⟨⟨rfl, rfl⟩, zF, zB, zN, zX⟩⟩
 refine yR ?_
 refine yA rfl rfl ?_
 refine yN ?_
 dsimp only [St.put]
 refine K22 _ ?_
 refine qw 14 41 3 rfl (by decide) ?_
 dsimp only [List.set_cons_zero, List.set_cons_succ]
 refine yS fun _ K39 => ?_
 refine yS fun _ K40 => ?_
 refine yR ?_
 refine yF rfl rfl rfl rfl ?_
 refine yL rfl rfl rfl ?_
 refine aa rfl (bj rfl rfl (List.length_map _)) ?_
 refine yM rfl rfl ?_
 refine yN ?_
 dsimp only [St.put]
 refine K40 _ ?_
 refine cb ?_
 refine dh 72 ?_
 refine zQ ?_
 refine du (ay ((ay G nx (i1 Tryz.prog 41 (x.found.length) ((gz (gr x.found (x.well.take 0))))))) (nx + 1) (.tip 0 41 3)) zX ?_
 dsimp only
 refine dz (X := Nat) (fun k => k ≤ x.well.length) (fun k => x.well.length - k) (fun k => [(14, .list ((m4 x.found x.well k).map cells) (.tip (nx + 1))), (16, .any), (71, .v (.int .i64 (k : Int)))]) (fun k G' => ay ((ay G nx (i1 Tryz.prog 41 ((x.found.length + k)) ((gz (gr x.found (x.well.take k))))))) (nx + 1) (.tip (m4 x.found x.well k).length 41 3)) 0 rfl ?_ ?_ ?_ ?_ ?_ ?_
 ·exact Nat.zero_le _
 ·exact zF
 ·exact zX
 ·rintro k hI
  exact (by (try dsimp only); repeat' (first | exact trivial | refine ⟨?_, ?_⟩ | exact .v | exact .any | refine .elem ?_ | exact co _ _ | exact f8 _ _ | exact ey _ _ | exact ge _ (by (try dsimp only); omega) | exact .box (by (try dsimp only); omega) | exact fp | exact dj | exact i0 (nl _ _) | refine gj ?_ ?_ | exact .arr (by (try dsimp only); omega) | exact .own (by (try dsimp only); omega) | exact .map (by (try dsimp only); omega) | exact ff _ | refine ct ?_ ?_ | exact co _ _))
 ·rintro k hI
  exact (by (repeat' (refine lu ?_ (by (try dsimp only); omega) ?_)); all_goals (first | exact ly zS | (repeat' (first | exact trivial | refine ⟨?_, ?_⟩ | exact .v | exact .any | refine .elem ?_ | exact co _ _ | exact f8 _ _ | exact ey _ _ | exact ge _ (by (try dsimp only); omega) | exact .box (by (try dsimp only); omega) | exact fp | exact dj | exact i0 (nl _ _) | refine gj ?_ ?_ | exact .arr (by (try dsimp only); omega) | exact .own (by (try dsimp only); omega) | exact .map (by (try dsimp only); omega) | exact ff _ | refine ct ?_ ?_ | exact co _ _))))
 rintro k hK
 dsimp only at hK ⊢
 refine yS fun _ K41 => ?_
 refine yR ?_
 refine aa rfl (c5 rfl rfl rfl) ?_
 refine yN ?_
 dsimp only [St.put]
 refine K41 _ ?_
 refine yS fun _ K42 => ?_
 refine bd rfl (fun hc => ?_) (fun hc => ?_)
 ·replace hc := of_decide_eq_true hc
  obtain ⟨q, hq⟩ : ∃ q, x.well[k]? = some q := d8 (by omega)
  have hbt := ugb x.found x.well k
  refine bi ?_
  refine K42 _ ?_
  refine yS fun _ K43 => ?_
  refine cb ?_
  refine yS fun _ K44 => ?_
  refine yR ?_
  refine aa rfl (bk rfl rfl rfl rfl (bu (by assumption)) (Enc.len _)) ?_
  refine yE rfl rfl rfl ?_
  try dsimp only [St.put]
  refine af rfl (dt rfl ?_)
  try dsimp only [St.put]
  refine af rfl (da rfl rfl rfl zG rfl rfl (by rfl) ?_)
  refine yN ?_
  dsimp only [St.put]
  refine K44 _ ?_
  refine gl (i := 16) rfl zG zC ?_
  dsimp only
  refine yS fun _ K45 => ?_
  refine yR ?_
  refine yM rfl rfl ?_
  refine yE rfl rfl rfl ?_
  try dsimp only [St.put]
  refine ae rfl (we q rfl rfl zG trivial rfl (udi _ _)) ?_
  refine yN ?_
  dsimp only [St.put]
  refine K45 _ ?_
  refine bd rfl (fun hc => ?_) (fun hc => ?_)
  ·have hin : q ∈ x.found := by
    rw [wy hnd2 hq] at hc
    exact of_decide_eq_true hc
   refine yS fun _ K46 => ?_
   refine yR ?_
   refine yM rfl rfl ?_
   refine yE rfl rfl rfl ?_
   try dsimp only [St.put]
   refine af rfl (el rfl rfl rfl (by decide) (by decide) zR (by decide) ?_)
   try dsimp only [St.put]
   refine af rfl (l4 ([q]) rfl rfl zG zE rfl rfl zA ?_ zA)
   refine yA rfl rfl ?_
   refine yN ?_
   dsimp only [St.put]
   refine K46 _ ?_
   refine yR ?_
   refine yM rfl rfl ?_
   refine yE rfl rfl rfl ?_
   try dsimp only [St.put]
   refine af rfl (ufx q rfl rfl zG rfl (udh hnd2 hq hin) ?_)
   refine yN ?_
   dsimp only [St.put]
   refine K43 _ ?_
   refine yR ?_
   refine aa rfl (cm rfl rfl rfl (by omega)) ?_
   refine yM rfl rfl ?_
   refine yN ?_
   dsimp only [St.put]
   have e := uga (F := x.found) hq
   first
   | (have hi : q ∈ x.found := hin
      rw [decide_eq_true hi, cond_true] at e
      simp only [← e]
      exact ⟨k + 1, by omega, by omega, ⟨⟨rfl, rfl⟩, zF, zB, zN, zX⟩⟩)
   | (have hi : q ∉ x.found := hout
      rw [decide_eq_false hi, cond_false, List.append_nil] at e
      simp only [← e]
      exact ⟨k + 1, by omega, by omega, ⟨⟨rfl, rfl⟩, zF, zB, zN, zX⟩⟩)
  have hout : q ∉ x.found := by
   rw [wy hnd2 hq] at hc
   exact of_decide_eq_false hc
  refine yR ?_
  refine yM rfl rfl ?_
  refine yE rfl rfl rfl ?_
  try dsimp only [St.put]
  refine af rfl (vd (q) rfl rfl rfl zG rfl (udg hnd2 hq hout) ?_)
  refine yN ?_
  dsimp only [St.put]
  refine K43 _ ?_
  refine yR ?_
  refine aa rfl (cm rfl rfl rfl (by omega)) ?_
  refine yM rfl rfl ?_
  refine yN ?_
  dsimp only [St.put]
  have e := uga (F := x.found) hq
  first
  | (have hi : q ∈ x.found := hin
     rw [decide_eq_true hi, cond_true] at e
     simp only [← e]
     exact ⟨k + 1, by omega, by omega, ⟨⟨rfl, rfl⟩, zF, zB, zN, zX⟩⟩)
  | (have hi : q ∉ x.found := hout
     rw [decide_eq_false hi, cond_false, List.append_nil] at e
     simp only [← e]
     exact ⟨k + 1, by omega, by omega, ⟨⟨rfl, rfl⟩, zF, zB, zN, zX⟩⟩)
 replace hc := of_decide_eq_false hc
 obtain rfl : k = x.well.length := by omega
 rw [uor hp]
 refine dq ?_
 refine K39 _ ?_
 refine yS fun _ K47 => ?_
 refine x7 14 (lst (eb p.text x)) rfl Wk.tok ?_
 refine yR ?_
 refine yM rfl rfl ?_
 try dsimp only [St.put]
 refine af rfl (ve rfl rfl rfl (uoc (eb p.text x) hB (by omega) _ _) ?_)
 refine yA rfl rfl ?_
 refine yN ?_
 dsimp only [St.put]
 refine K47 _ ?_
 refine yS fun _ K48 => ?_
 refine yS fun _ K49 => ?_
 refine yR ?_
 refine yM rfl rfl ?_
 try dsimp only [St.put]
 refine af rfl (uft rfl rfl zG fun r β cl ks hnd hks0 hinj => ?_)
 refine yN ?_
 dsimp only [St.put]
 refine K49 _ ?_
 rw [hmw] at hks0
 rw [hmw]
 refine cb ?_
 refine dh 91 ?_
 refine zQ ?_
 refine du (ay (ay (ay (ay G nx (o5 Tryz.prog 41 (x.found.length + x.well.length) (gz (gr x.found x.well)) β cl)) (nx + 1 + 1) (.arr 0 0 41 3 (eb p.text x).length (dx (eb p.text x)))) (nx + 1 + 1 + 1) (.raw 0 (.mapIter (some r) cl (jg β ([] : List PlaceD)) cl))) (nx + 1 + 1 + 1 + 1) (.fact (.map (some r)) (.map nx))) zX ?_
 dsimp only
 refine dz (X := List PlaceD × Nat × Nat × Nat) (fun y => (∀ z ∈ y.1, z ∈ ks) ∧ y.1.Nodup) (fun y => uk ks y.1) (fun y => [(17, .own (nx + 1 + 1) y.2.2.1 (eb p.text x ++ y.1).length), (18, .any)]) (fun y G' => (ay (ay (ay (ay G nx (o5 Tryz.prog 41 ((x.found.length + x.well.length)) (gz ((gr x.found x.well))) β cl)) ((nx + 1 + 1)) (.arr y.2.2.1 y.2.2.2 41 3 ((eb p.text x ++ y.1)).length (dx ((eb p.text x ++ y.1))))) ((nx + 1 + 1 + 1)) (.raw y.2.1 (.mapIter (some r) cl (jg β y.1) cl))) ((nx + 1 + 1 + 1 + 1)) (.fact (.map (some r)) (.map nx)))) ([], 0, 0, 0) rfl ?_ ?_ ?_ ?_ ?_ ?_
 ·exact ⟨fun z hz => by simp at hz, List.nodup_nil⟩
 ·simp only [List.append_nil]
  exact zF
 ·simp only [List.append_nil]
  exact zX
 ·rintro ⟨done, wi, vl, wv⟩ hI
  exact (by (try dsimp only); repeat' (first | exact trivial | refine ⟨?_, ?_⟩ | exact .v | exact .any | refine .elem ?_ | exact co _ _ | exact f8 _ _ | exact ey _ _ | exact ge _ (by (try dsimp only); omega) | exact .box (by (try dsimp only); omega) | exact fp | exact dj | exact xm (nl _ _) | exact ff _ | refine gj ?_ ?_ | exact .arr (by (try dsimp only); omega) | exact .own (by (try dsimp only); omega) | exact .map (by (try dsimp only); omega) | exact ff _ | refine ct ?_ ?_ | exact co _ _))
 ·rintro ⟨done, wi, vl, wv⟩ hI
  exact (by (repeat' (refine lu ?_ (by (try dsimp only); omega) ?_)); all_goals (first | exact ly zS | (repeat' (first | exact trivial | refine ⟨?_, ?_⟩ | exact .v | exact .any | refine .elem ?_ | exact co _ _ | exact f8 _ _ | exact ey _ _ | exact ge _ (by (try dsimp only); omega) | exact .box (by (try dsimp only); omega) | exact fp | exact dj | exact xm (nl _ _) | exact ff _ | refine gj ?_ ?_ | exact .arr (by (try dsimp only); omega) | exact .own (by (try dsimp only); omega) | exact .map (by (try dsimp only); omega) | exact ff _ | refine ct ?_ ?_ | exact co _ _))))
 rintro ⟨done, wi, vl, wv⟩ hI8
 dsimp only at hI8 ⊢
 refine yS fun _ K50 => ?_
 refine yR ?_
 try dsimp only [St.put]
 refine af rfl (ufu (done := done) rfl rfl zG zG zG (hks0) (hinj) (hI8.1) (fun hend => ?_) (fun y c hym hyk hyd => ?_))
 ·have hdl := wx hp hI8.2 (fun q hq => onceM_ne.1 ((hks0 q).2 (hI8.1 q hq)))
  have hdk : ∀ q, q ∈ done ↔ gr x.found x.well q = true := fun q => ⟨fun hq => onceM_ne.1 ((hks0 q).2 (hI8.1 q hq)), fun hq => hend q ((hks0 q).1 (onceM_ne.2 hq))⟩
  have hpb := udf hp ht (fun q hq => (hdk q).1 hq)
  refine yX rfl rfl rfl rfl ?_
  refine yN ?_
  dsimp only [St.put]
  refine K50 _ ?_
  refine yS fun _ K51 => ?_
  refine bd rfl (fun h => by cases h) (fun _ => ?_)
  refine dq ?_
  refine K48 _ ?_
  refine yS fun _ K52 => ?_
  have hpb2 : ∀ y ∈ eb p.text x ++ done, PBd9 y := fun y hy => by
   rcases List.mem_append.1 hy with hy | hy
   ·exact uos hp ht hy
   exact hpb y hy
  refine yR ?_
  refine yM rfl rfl ?_
  try dsimp only [St.put]
  refine af rfl (ufs ub7 PBd9 l9 rfl rfl rfl rfl zG rfl rfl rfl (fun y hy => hy.plain) hpb2 (by first | (rw [List.length_append]; omega) | (simp only [List.nil_append]; omega)) (fun a b _ _ => zm a b _ _) udd (fun ys hperm hsort => ?_))
  refine yN ?_
  dsimp only [St.put]
  have hlen := hperm.length_eq
  obtain rfl := ugx hp hI8.2 hdk hperm hsort
  refine K52 _ ?_
  refine ubd 17 (et p.text x) rfl zG rfl rfl hlen.symm ?_
  dsimp only
  refine ugq [(0, none), (1, none), (2, none), (3, none), (4, none), (5, none), (6, none), (7, none), (10, none), (11, none), (12, none), (13, none), (14, none), (17, none), (18, none), (19, none), (20, none), (21, none)] (fun i => [23, 26, 29, 32].contains i) (fun i => [0, 1, 2, 3, 4, 5, 7, 10, 11, 12, 14, 17, 18, 19, 21].contains i) 15 (rl [8, 2, 5, 2, 5, 11]) [nB] (by kernel_rfl) (by kernel_rfl) ?_
  refine xM rfl rfl rfl rfl rfl ?_
  refine xM rfl rfl rfl rfl rfl ?_
  refine xM rfl rfl rfl rfl rfl ?_
  refine xM rfl rfl rfl rfl rfl ?_
  refine ah rfl rfl rfl rfl (jn rfl rfl) ?_
  refine ah rfl rfl rfl rfl (cr rfl rfl) ?_
  try dsimp only [St.put]
  refine ai rfl rfl rfl rfl (bz rfl rfl zG (by simp) (by first | rfl | assumption)) ?_
  refine xM rfl rfl rfl rfl rfl ?_
  refine xM rfl rfl rfl rfl rfl ?_
  refine ah rfl rfl rfl rfl (jn rfl rfl) ?_
  refine ah rfl rfl rfl rfl (cr rfl rfl) ?_
  try dsimp only [St.put]
  refine ai rfl rfl rfl rfl (bz rfl rfl zG (by simp) (by first | rfl | assumption)) ?_
  refine xM rfl rfl rfl rfl rfl ?_
  refine xM rfl rfl rfl rfl rfl ?_
  refine ah rfl rfl rfl rfl (jn rfl rfl) ?_
  refine ah rfl rfl rfl rfl (cr rfl rfl) ?_
  try dsimp only [St.put]
  refine ai rfl rfl rfl rfl (bz rfl rfl zG (by simp) (by first | rfl | assumption)) ?_
  refine xM rfl rfl rfl rfl rfl ?_
  refine cz ⟨zD, ?_⟩
  dsimp only [St.put]
  refine ug1 ws al bo (fh p.text x : Int) (et p.text x) (eb p.text x) nB a1 a2 a3 _ rfl (by kernel_rfl) (by kernel_rfl) (by kernel_rfl) rfl rfl rfl rfl rfl rfl rfl rfl rfl rfl rfl rfl rfl zG zG zG zG d1 d2 d3 d4 d5 d6 hw ha hb ?_
  dsimp only
  refine sx [(24, none), (25, none)] 7 (rl [26, 7]) (by kernel_rfl) ?_
  refine ah rfl rfl rfl rfl (jn rfl rfl) ?_
  refine ah rfl rfl rfl rfl (cr rfl rfl) ?_
  refine cz ⟨zD, ?_⟩
  refine ra [26] (by kernel_rfl) (by simp) ?_
  refine sw ?_ ?_
  ·try dsimp only [St.put]
   refine sq rfl rfl rfl rfl (g7 rfl rfl rfl zG (by constructor) rfl zO ?_)
   refine sx [(27, none), (28, none)] 4 (rl [29, 4]) (by kernel_rfl) ?_
   refine ah rfl rfl rfl rfl (jn rfl rfl) ?_
   refine ah rfl rfl rfl rfl (cr rfl rfl) ?_
   refine cz ⟨zD, ?_⟩
   refine ra [29] (by kernel_rfl) (by simp) ?_
   refine sw ?_ ?_
   ·try dsimp only [St.put]
    refine sq rfl rfl rfl rfl (g7 rfl rfl rfl zG (by constructor) rfl zO ?_)
    refine sx [(30, none), (31, none)] 1 (rl [32, 1]) (by kernel_rfl) ?_
    refine ah rfl rfl rfl rfl (jn rfl rfl) ?_
    refine ah rfl rfl rfl rfl (cr rfl rfl) ?_
    refine cz ⟨zD, ?_⟩
    refine ra [32] (by kernel_rfl) (by simp) ?_
    refine sw ?_ ?_
    ·try dsimp only [St.put]
     refine sq rfl rfl rfl rfl (g7 rfl rfl rfl zG (by constructor) rfl zO ?_)
     dsimp only [St.put]
     refine ug2 (by kernel_rfl) ?_
     refine ufl rfl (.inl rfl) zN (ub0 zG zG zG zG fun n o q1 q2 q3 q4 h => ?_)
     have hn := hlt n o h
     (try dsimp only)
     repeat (first | exact h | rw [i5 (by omega)] | rw [mb (by omega)])
    exact sv
   exact sv
  exact sv
 have hz0 := zp hym
 subst hz0
 obtain ⟨z, hz⟩ : ∃ z, z = y := ⟨_, rfl⟩
 subst hz
 have hIn : ∀ z ∈ ks, ∀ x ∈ done ++ [z], x ∈ ks := fun z hz x hx => by
  rcases List.mem_append.1 hx with hx | hx
  ·exact hI8.1 x hx
  rw [List.mem_singleton] at hx; exact hx ▸ hz
 have hIu : ∀ z, z ∉ done → (done ++ [z]).Nodup := fun z hz => List.nodup_append.2 ⟨hI8.2, by simp, fun a ha b hb => by
  rw [List.mem_singleton] at hb; subst hb; exact fun e => hz (e ▸ ha)⟩
 have hdl := wx hp hI8.2 (fun q hq => onceM_ne.1 ((hks0 q).2 (hI8.1 q hq)))
 refine yX rfl rfl rfl rfl ?_
 refine yN ?_
 dsimp only [St.put]
 refine K50 _ ?_
 refine yS fun _ K53 => ?_
 refine bd rfl (fun _ => ?_) (fun h => by cases h)
 refine bi ?_
 refine K53 _ ?_
 refine cb ?_
 refine yS fun _ K54 => ?_
 refine yR ?_
 try dsimp only [St.put]
 refine ae rfl (uce (fx := nx + 1 + 1 + 1 + 1) (n := nx) rfl rfl zG trivial zG zG trivial (by assumption)) ?_
 refine yX rfl rfl rfl rfl ?_
 try dsimp only [St.put]
 refine af rfl (dt rfl ?_)
 try dsimp only [St.put]
 refine af rfl (da rfl rfl rfl zG rfl rfl (by rfl) ?_)
 refine yN ?_
 dsimp only [St.put]
 refine K54 _ ?_
 refine gl (i := 18) rfl zG zC ?_
 dsimp only
 refine yR ?_
 refine yM rfl rfl ?_
 try dsimp only [St.put]
 refine ae rfl (aq rfl rfl rfl) ?_
 try dsimp only [St.put]
 refine af rfl (el rfl rfl rfl (by decide) (by decide) zR (by decide) ?_)
 try dsimp only [St.put]
 refine af rfl (xx (xs := eb p.text x ++ done) [z] rfl rfl zG rfl rfl rfl rfl zA zA (fun v3 => ?_))
 refine yA rfl rfl ?_
 refine yN ?_
 dsimp only [St.put]
 simp only [List.append_assoc]
 exact ⟨(done ++ [z], wi + 1, v3, wv), ued hyk hyd, ⟨hIn z hyk, hIu z hyd⟩, ⟨⟨rfl, rfl⟩, zF, zB, zN, zX⟩⟩
end Go.Proofs.YtgffhbbcpgdjjaaGreatDoor
namespace Go.AB
open Go Go.RowKit
open Go.AB.Enc (cells)
open Go.PB (bg aj PlaceD bn bq bp ck az ak dc ce dr dv)
end Go.AB
namespace Go.Proofs.YtgffhbbcpgdjjaaGreatDoor
set_option maxRecDepth 10000
open Go Go.RowKit Go.AB
open Go.AB.Enc (cells)
open Go.PB (bg aj PlaceD bn bq bp ck az ak dc ce dr dv)
theorem uoe (l : List Int) (he : l = []) : Pure Tryz.prog 72 [lst l] (lst l) := by
 subst he
 refine di Tryz.func72 rfl (fun m => (co _ _)) fun G nx => ?_
 simp only [Tryz.ntmps72, List.length_cons, List.length_nil, Nat.reduceAdd, Nat.reduceSub]
 refine cp fun hlt => ?_
 dsimp only at hlt
 refine ar fun K1 hK1 => ?_
 refine aw ?_
 refine aa rfl (bf rfl (by constructor)) ?_
 refine av ?_
 dsimp only [St.put]
 refine hK1 _ ?_
 refine ar fun K2 hK2 => ?_
 refine ar fun K3 hK3 => ?_
 refine aw ?_
 refine aa rfl (ba rfl (by constructor)) ?_
 refine af rfl (ufw rfl rfl fun b _ => ?_)
 refine av ?_
 dsimp only [St.put]
 refine hK3 _ ?_
 refine bd rfl (fun hc => ?_) (fun hc => ?_)
 ·try replace hc := of_decide_eq_true hc
  refine ar fun K4 hK4 => ?_
  refine aw ?_
  refine aa rfl (bf rfl (by constructor)) ?_
  refine av ?_
  dsimp only [St.put]
  refine hK4 _ ?_
  refine bc ?_
  refine si rfl (ep (by constructor)) zN zS ?_
  exact zW
 ·try replace hc := of_decide_eq_false hc
  refine bi ?_
  refine hK2 _ ?_
  refine ar fun K5 hK5 => ?_
  refine aw ?_
  try dsimp only [St.put]
  refine af rfl (xv rfl ?_)
  refine aa rfl (ba rfl (by constructor)) ?_
  try dsimp only [St.put]
  refine af rfl (uax rfl rfl (.inl rfl) rfl (show 1 ≤ 1 by decide) (fun r hr => by cases hr) (by simp) (by simp) ?_)
  refine aa rfl (bf rfl (by constructor)) ?_
  refine av ?_
  dsimp only [St.put]
  refine hK5 _ ?_
  refine bc ?_
  refine si rfl (ep (by constructor)) zN zS ?_
  exact zW
theorem ua3 (l : List Int) (hne : l ≠ []) (hl : l.length ≤ 1000) (G : Nat → Option GObj) (nx : Nat) : PC Tryz.prog 72 [lst l] G nx fun r G' nx' => r = .own nx 0 l.length ∧ G' = ay G nx (.arr 0 0 3 1 l.length (dx l)) ∧ nx' = nx + 1 := by
 refine ix (ay G nx (.arr 0 0 3 1 l.length (dx l))) (nx + 1) Tryz.func72 rfl (.own (Nat.lt_succ_self _)) zN (fun hlt => (by (repeat' (refine lu ?_ (by (try dsimp only); omega) ?_)); all_goals (first | exact ly zS | (repeat' (first | exact trivial | refine ⟨?_, ?_⟩ | exact .v | exact .any | refine .elem ?_ | exact co _ _ | exact f8 _ _ | exact ey _ _ | exact ge _ (by (try dsimp only); omega) | exact .box (by (try dsimp only); omega) | exact fp | exact dj | exact ff _ | refine gj ?_ ?_ | exact .arr (by (try dsimp only); omega) | exact .own (by (try dsimp only); omega) | exact .map (by (try dsimp only); omega) | exact ff _ | refine ct ?_ ?_ | exact co _ _))))) ?_
 simp only [Tryz.ntmps72, List.length_cons, List.length_nil, Nat.reduceAdd, Nat.reduceSub]
 refine cp fun hlt => ?_
 dsimp only at hlt
 refine ar fun K1 hK1 => ?_
 refine aw ?_
 refine aa rfl (bf rfl (by constructor)) ?_
 refine av ?_
 dsimp only [St.put]
 refine hK1 _ ?_
 refine ar fun K2 hK2 => ?_
 refine ar fun K3 hK3 => ?_
 refine aw ?_
 refine aa rfl (ba rfl (by constructor)) ?_
 refine af rfl (ufv (fun e => hne (by simpa using e)) rfl rfl ?_)
 refine av ?_
 dsimp only [St.put]
 refine hK3 _ ?_
 refine bd rfl (fun hc => ?_) (fun hc => ?_)
 ·try replace hc := of_decide_eq_true hc
  refine ar fun K4 hK4 => ?_
  refine aw ?_
  refine aa rfl (bf rfl (by constructor)) ?_
  refine av ?_
  dsimp only [St.put]
  refine hK4 _ ?_
  refine bc ?_
  exact absurd hc (by decide)
 ·try replace hc := of_decide_eq_false hc
  refine bi ?_
  refine hK2 _ ?_
  refine ar fun K5 hK5 => ?_
  refine aw ?_
  try dsimp only [St.put]
  refine af rfl (xv rfl ?_)
  refine aa rfl (ba rfl (by constructor)) ?_
  try dsimp only [St.put]
  refine af rfl (ufy l rfl rfl (.inl rfl) rfl rfl hne (by decide) (by omega) (by omega) ?_)
  refine aa rfl (bf rfl (by constructor)) ?_
  refine av ?_
  dsimp only [St.put]
  refine hK5 _ ?_
  refine bc ?_
  refine bx rfl (by constructor) zN zS ?_
  rfl
set_option maxHeartbeats 1000000 in
theorem uko (p : ak) (R C : Nat → Int) (j : Nat) (x : az) (n : Int) (h : gh p) (h0 : 0 < c4 p) (hx : p.pages[j]? = some x) (hn : -1000000 ≤ n ∧ n ≤ 1000000) (hR : ∀ i, -1000000 ≤ R i ∧ R i ≤ 1000000) : Pure Tryz.prog 52 [val (gq p R C), .v (.int .i64 (j : Int)), .v (.int .i64 n)] (val (gq p ((cw p).lessR R j n) (fa C j))) := by
 refine di Tryz.func52 rfl (fun m => (ey _ _)) fun G nx => ?_
 simp only [Tryz.ntmps52, List.length_cons, List.length_nil, Nat.reduceAdd, Nat.reduceSub]
 refine cp fun hlt => ?_
 dsimp only at hlt
 have hjl := (List.getElem?_eq_some_iff.1 hx).1
 have hrx := wl hx
 have hn1 := h.nf
 have hn2 := h.ns
 have hnp := h.np
 have hnr : c4 p = p.firsts.length + p.seconds.length := rfl
 have hrl := zg p x
 have hl1 := ju (c4 p) R
 have hl2 := ju p.pages.length C
 have hne2 : dd p.pages.length C ≠ [] := fun e => by rw [e] at hl2; simp at hl2; omega
 have hne1 : dd (c4 p) R ≠ [] := fun e => by rw [e] at hl1; simp at hl1; omega
 refine ar fun K1 hK1 => ?_
 refine aw ?_
 try dsimp only [St.put]
 refine af rfl (xw rfl rfl ?_)
 try dsimp only [St.put]
 refine af rfl (dt rfl ?_)
 refine av ?_
 dsimp only [St.put]
 refine hK1 _ ?_
 refine ar fun K2 hK2 => ?_
 refine g8 [(0, none), (1, none), (3, none), (4, none), (2, none), (6, none), (5, none), (7, none), (8, none), (9, none)] (fun i => [5, 7, 9].contains i) (fun i => [2, 5, 7, 9].contains i) (fun i => [0, 3, 6, 8].contains i) [nx] (by kernel_rfl) (by kernel_rfl) ?_
 first | refine ah rfl rfl rfl rfl (br rfl rfl rfl) ?_ | refine ah rfl rfl rfl rfl (cr rfl rfl) ?_
 try dsimp only [St.put]
 first | refine ai rfl rfl rfl rfl (bh rfl rfl) ?_ | refine ai rfl rfl rfl rfl (aq rfl rfl (Enc.len _)) ?_ | refine ai rfl rfl rfl rfl (aq rfl rfl rfl) ?_ | refine ai rfl rfl rfl rfl (bz rfl rfl zG (by simp) (by first | rfl | assumption)) ?_ | refine ai rfl rfl rfl rfl (ca rfl rfl zG (by simp) (by rfl)) ?_ | refine ai rfl rfl rfl rfl (cg rfl rfl zG (by simp) (by simp)) ?_ | refine ai rfl rfl rfl rfl (ax rfl rfl zG (by simp) (ci (by assumption) rfl)) ?_ | refine ai rfl rfl rfl rfl (ax rfl rfl zG (by simp) (by assumption)) ?_ | refine ai rfl rfl rfl rfl (cj rfl rfl zG (by simp) rfl (by assumption) rfl (by decide)) ?_ | refine ai rfl rfl rfl rfl (cd rfl rfl zG (by rfl)) ?_
 first | refine ah rfl rfl rfl rfl (br rfl rfl rfl) ?_ | refine ah rfl rfl rfl rfl (cr rfl rfl) ?_
 try dsimp only [St.put]
 first | refine ai rfl rfl rfl rfl (bh rfl rfl) ?_ | refine ai rfl rfl rfl rfl (aq rfl rfl (Enc.len _)) ?_ | refine ai rfl rfl rfl rfl (aq rfl rfl rfl) ?_ | refine ai rfl rfl rfl rfl (bz rfl rfl zG (by simp) (by first | rfl | assumption)) ?_ | refine ai rfl rfl rfl rfl (ca rfl rfl zG (by simp) (by rfl)) ?_ | refine ai rfl rfl rfl rfl (cg rfl rfl zG (by simp) (by simp)) ?_ | refine ai rfl rfl rfl rfl (ax rfl rfl zG (by simp) (ci (by assumption) rfl)) ?_ | refine ai rfl rfl rfl rfl (ax rfl rfl zG (by simp) (by assumption)) ?_ | refine ai rfl rfl rfl rfl (cj rfl rfl zG (by simp) rfl (by assumption) rfl (by decide)) ?_ | refine ai rfl rfl rfl rfl (cd rfl rfl zG (by rfl)) ?_
 refine j4 ?_
 try dsimp only [St.put]
 refine lg rfl rfl rfl (ve rfl rfl rfl (ua3 (dd (c4 p) R) hne1 (by omega) _ _) ⟨zD, ?_⟩)
 first | refine eo rfl rfl rfl rfl (br rfl rfl rfl) ?_ | refine eo rfl rfl rfl rfl (cr rfl rfl) ?_
 try dsimp only [St.put]
 refine gg rfl rfl rfl rfl (ve rfl rfl rfl (ua3 (dd p.pages.length C) hne2 (by omega) _ _) ?_)
 try dsimp only [St.put]
 first | refine gg rfl rfl rfl rfl (da rfl rfl rfl zG rfl rfl (by rfl) ?_) | refine gg rfl rfl rfl rfl (g7 rfl rfl rfl zG (by constructor) rfl zO ?_)
 first | refine eo rfl rfl rfl rfl (br rfl rfl rfl) ?_ | refine eo rfl rfl rfl rfl (cr rfl rfl) ?_
 try dsimp only [St.put]
 refine gg rfl rfl rfl rfl (g7 rfl rfl rfl zG (by constructor) rfl (by show 1 < 3; decide) ?_)
 refine j3 ?_
 dsimp only [St.put]
 simp only [hl1, hl2]
 refine hK2 _ ?_
 refine ar fun K3 hK3 => ?_
 refine ar fun K4 hK4 => ?_
 refine aw ?_
 first | refine aa rfl (br rfl rfl rfl) ?_ | refine aa rfl (cr rfl rfl) ?_
 try dsimp only [St.put]
 first | refine ae rfl (bh rfl rfl) ?_ | refine ae rfl (aq rfl rfl (Enc.len _)) ?_ | refine ae rfl (aq rfl rfl rfl) ?_ | refine ae rfl (bz rfl rfl zG trivial (by first | rfl | assumption)) ?_ | refine ae rfl (ca rfl rfl zG trivial (by rfl)) ?_ | refine ae rfl (cg rfl rfl zG trivial (by simp)) ?_ | refine ae rfl (ax rfl rfl zG trivial (ci (by assumption) rfl)) ?_ | refine ae rfl (ax rfl rfl zG trivial (by assumption)) ?_ | refine ae rfl (cj rfl rfl zG trivial rfl (by assumption) rfl (by decide)) ?_ | refine ae rfl (cd rfl rfl zG (by rfl)) ?_
 refine aa rfl (ba rfl (by constructor)) ?_
 try dsimp only [St.put]
 first | refine aa rfl (bk rfl rfl rfl rfl (bu (by assumption)) (Enc.len _)) ?_ | refine aa rfl (bk rfl rfl rfl rfl (by assumption) rfl) ?_ | refine aa rfl (g4 rfl rfl rfl (by first | exact g6 _ | exact rfl) (by omega)) ?_ | refine aa rfl (bk rfl rfl rfl (by omega) (bu (by assumption)) (Enc.len _)) ?_
 try dsimp only [St.put]
 first | refine ae rfl (bh rfl rfl) ?_ | refine ae rfl (aq rfl rfl (Enc.len _)) ?_ | refine ae rfl (aq rfl rfl rfl) ?_ | refine ae rfl (bz rfl rfl zG trivial (by first | rfl | assumption)) ?_ | refine ae rfl (ca rfl rfl zG trivial (by rfl)) ?_ | refine ae rfl (cg rfl rfl zG trivial (by simp)) ?_ | refine ae rfl (ax rfl rfl zG trivial (ci (by assumption) rfl)) ?_ | refine ae rfl (ax rfl rfl zG trivial (by assumption)) ?_ | refine ae rfl (cj rfl rfl zG trivial rfl (by assumption) rfl (by decide)) ?_ | refine ae rfl (cd rfl rfl zG (by rfl)) ?_
 first | refine aa rfl (bj rfl rfl (List.length_map _)) ?_ | refine aa rfl (bj rfl rfl rfl) ?_ | refine aa rfl (f7 rfl rfl) ?_ | refine aa rfl (gd rfl rfl) ?_ | refine aa rfl (ga rfl rfl) ?_ | refine aa rfl (f9 rfl rfl (by omega)) ?_
 refine aa rfl (ba rfl (by constructor)) ?_
 refine av ?_
 dsimp only [St.put]
 refine hK4 _ ?_
 refine cb ?_
 refine dh 24 ?_
 refine zQ ?_
 refine du ((ay (ay (ay (ay G nx (.box 2 [.own (nx + 1 + 1) 0 (c4 p), .own (nx + 1 + 1 + 1) 0 p.pages.length, lst (p.pages.map (dw p))])) (nx + 1) (.box 0 [.list [] .nil, .list [] .nil, .list [] .nil])) (nx + 1 + 1) (.arr 0 0 3 1 (c4 p) (dx (dd (c4 p) (R))))) (nx + 1 + 1 + 1) (.arr 0 0 3 1 p.pages.length (dx (dd p.pages.length C))))) zX ?_
 dsimp only
 refine dz (X := Nat) (fun k => k ≤ (dw p x).length ∧ ∀ i, -1000000 - k * 1000000 ≤ ll R n ((dw p x).take k) i ∧ ll R n ((dw p x).take k) i ≤ 1000000 + k * 1000000) (fun k => (dw p x).length - k) (fun k => [(8, .any), (23, .v (.int .i64 (k : Int)))]) (fun k G' => (ay (ay (ay (ay G nx (.box 2 [.own (nx + 1 + 1) 0 (c4 p), .own (nx + 1 + 1 + 1) 0 p.pages.length, lst (p.pages.map (dw p))])) (nx + 1) (.box 0 [.list [] .nil, .list [] .nil, .list [] .nil])) (nx + 1 + 1) (.arr 0 k 3 1 (c4 p) (dx (dd (c4 p) ((ll R n ((dw p x).take k))))))) (nx + 1 + 1 + 1) (.arr 0 0 3 1 p.pages.length (dx (dd p.pages.length C))))) 0 rfl ?_ ?_ ?_ ?_ ?_ ?_
 ·exact ⟨Nat.zero_le _, fun i => by have := hR i; simp only [List.take_zero, uii]; omega⟩
 ·exact zF
 ·exact zX
 ·rintro k hI
  exact zL
 ·rintro k hI
  exact zH
 ·rintro k hI
  dsimp only at hI ⊢
  refine ar fun K5 hK5 => ?_
  refine aw ?_
  refine aa rfl (c5 rfl rfl rfl) ?_
  refine av ?_
  dsimp only [St.put]
  refine hK5 _ ?_
  refine ar fun K6 hK6 => ?_
  refine bd rfl (fun hc => ?_) (fun hc => ?_)
  ·replace hc := of_decide_eq_true hc
   obtain ⟨zn, hz, hz6⟩ := zf h hx (k := k) (by omega)
   have hst := uih (R := R) (n := n) hz
   rw [Int.toNat_natCast] at hst
   have hI2 : ∀ i, -1000000 - ((k + 1 : Nat) : Int) * 1000000 ≤ ll R n ((dw p x).take (k + 1)) i ∧ ll R n ((dw p x).take (k + 1)) i ≤ 1000000 + ((k + 1 : Nat) : Int) * 1000000 := fun i => by
    rw [hst]
    have h1 := hI.2 i
    have h2 := hI.2 zn
    dsimp only
    cases decide (i = zn)
    ·rw [cond_false]
     omega
    ·rw [cond_true]
     omega
   have hI3 := hI.2 zn
   obtain ⟨S, hS⟩ : ∃ S, ll R n ((dw p x).take k) = S := ⟨_, rfl⟩
   rw [hS] at hst hI3 ⊢
   have hset := yx S (S zn - n) hz6
   rw [← hst] at hset
   refine bi ?_
   refine hK6 _ ?_
   refine ar fun K7 hK7 => ?_
   refine cb ?_
   refine ar fun K8 hK8 => ?_
   refine aw ?_
   try dsimp only [St.put]
   first | refine aa rfl (bk rfl rfl rfl rfl (bu (by assumption)) (Enc.len _)) ?_ | refine aa rfl (bk rfl rfl rfl rfl (by assumption) rfl) ?_ | refine aa rfl (g4 rfl rfl rfl (by first | exact g6 _ | exact rfl) (by omega)) ?_ | refine aa rfl (bk rfl rfl rfl (by omega) (bu (by assumption)) (Enc.len _)) ?_
   try dsimp only [St.put]
   first | refine ae rfl (bh rfl rfl) ?_ | refine ae rfl (aq rfl rfl (Enc.len _)) ?_ | refine ae rfl (aq rfl rfl rfl) ?_ | refine ae rfl (bz rfl rfl zG trivial (by first | rfl | assumption)) ?_ | refine ae rfl (ca rfl rfl zG trivial (by rfl)) ?_ | refine ae rfl (cg rfl rfl zG trivial (by simp)) ?_ | refine ae rfl (ax rfl rfl zG trivial (ci (by assumption) rfl)) ?_ | refine ae rfl (ax rfl rfl zG trivial (by assumption)) ?_ | refine ae rfl (cj rfl rfl zG trivial rfl (by assumption) rfl (by decide)) ?_ | refine ae rfl (cd rfl rfl zG (by rfl)) ?_
   refine aa rfl (bf rfl (by constructor)) ?_
   refine av ?_
   dsimp only [St.put]
   refine hK8 _ ?_
   refine aw ?_
   first | refine aa rfl (br rfl rfl rfl) ?_ | refine aa rfl (cr rfl rfl) ?_
   try dsimp only [St.put]
   first | refine ae rfl (bh rfl rfl) ?_ | refine ae rfl (aq rfl rfl (Enc.len _)) ?_ | refine ae rfl (aq rfl rfl rfl) ?_ | refine ae rfl (bz rfl rfl zG trivial (by first | rfl | assumption)) ?_ | refine ae rfl (ca rfl rfl zG trivial (by rfl)) ?_ | refine ae rfl (cg rfl rfl zG trivial (by simp)) ?_ | refine ae rfl (ax rfl rfl zG trivial (ci (by assumption) rfl)) ?_ | refine ae rfl (ax rfl rfl zG trivial (by assumption)) ?_ | refine ae rfl (cj rfl rfl zG trivial rfl (by assumption) rfl (by decide)) ?_ | refine ae rfl (cd rfl rfl zG (by rfl)) ?_
   refine aa rfl (ba rfl (by constructor)) ?_
   try dsimp only [St.put]
   refine aa rfl (w9 rfl rfl zG rfl rfl hz6) ?_
   try dsimp only [St.put]
   refine ae rfl (ax rfl rfl zG (by simp) (uni (by rw [Nat.mul_one]; exact nd S hz6))) ?_
   refine aa rfl (ba rfl (by constructor)) ?_
   first | refine aa rfl (ir rfl rfl rfl (by omega)) ?_ | refine aa rfl (ru rfl rfl rfl) ?_
   try dsimp only [St.put]
   refine aa rfl (w9 rfl rfl zG rfl rfl hz6) ?_
   try dsimp only [St.put]
   refine af rfl (uat (k := zn) (j := 0) (z := S zn) (z' := S zn - n) rfl rfl rfl zG rfl rfl (nd S hz6) rfl (by decide) rfl ?_)
   refine av ?_
   dsimp only [St.put]
   refine hK7 _ ?_
   refine aw ?_
   first | refine aa rfl (cm rfl rfl rfl (by omega)) ?_ | refine aa rfl (il rfl rfl rfl) ?_
   refine aa rfl (ba rfl (by constructor)) ?_
   refine av ?_
   dsimp only [St.put]
   rw [hset]
   exact ⟨k + 1, by omega, ⟨by omega, hI2⟩, ⟨⟨rfl, rfl⟩, zF, zB, zN, zX⟩⟩
  ·replace hc := of_decide_eq_false hc
   rw [g9 (show (dw p x).length ≤ k by omega), ← umc h hx]
   refine dq ?_
   refine hK3 _ ?_
   refine ar fun K9 hK9 => ?_
   refine aw ?_
   first | refine aa rfl (br rfl rfl rfl) ?_ | refine aa rfl (cr rfl rfl) ?_
   try dsimp only [St.put]
   first | refine ae rfl (bh rfl rfl) ?_ | refine ae rfl (aq rfl rfl (Enc.len _)) ?_ | refine ae rfl (aq rfl rfl rfl) ?_ | refine ae rfl (bz rfl rfl zG trivial (by first | rfl | assumption)) ?_ | refine ae rfl (ca rfl rfl zG trivial (by rfl)) ?_ | refine ae rfl (cg rfl rfl zG trivial (by simp)) ?_ | refine ae rfl (ax rfl rfl zG trivial (ci (by assumption) rfl)) ?_ | refine ae rfl (ax rfl rfl zG trivial (by assumption)) ?_ | refine ae rfl (cj rfl rfl zG trivial rfl (by assumption) rfl (by decide)) ?_ | refine ae rfl (cd rfl rfl zG (by rfl)) ?_
   refine aa rfl (ba rfl (by constructor)) ?_
   try dsimp only [St.put]
   refine aa rfl (w9 rfl rfl zG rfl rfl hjl) ?_
   try dsimp only [St.put]
   refine af rfl (uat (k := j) (j := 0) (z := C j) (z' := 0) rfl rfl rfl zG rfl rfl (nd C hjl) rfl (by decide) rfl ?_)
   refine av ?_
   dsimp only [St.put]
   rw [show (dd p.pages.length C).set j 0 = dd p.pages.length (fa C j) from yx C 0 hjl]
   refine hK9 _ ?_
   refine ar fun K10 hK10 => ?_
   refine ubc nx 0 (dd (c4 p) ((cw p).lessR R j n)) zG rfl zG (by omega) rfl rfl (ju _ _).symm ?_
   refine ubc nx 1 (dd p.pages.length (fa C j)) zG rfl zG (by omega) rfl rfl (ju _ _).symm ?_
   dsimp only [List.set_cons_zero, List.set_cons_succ]
   refine aw ?_
   try dsimp only [St.put]
   first | refine ae rfl (bh rfl rfl) ?_ | refine ae rfl (aq rfl rfl (Enc.len _)) ?_ | refine ae rfl (aq rfl rfl rfl) ?_ | refine ae rfl (bz rfl rfl zG trivial (by first | rfl | assumption)) ?_ | refine ae rfl (ca rfl rfl zG trivial (by rfl)) ?_ | refine ae rfl (cg rfl rfl zG trivial (by simp)) ?_ | refine ae rfl (ax rfl rfl zG trivial (ci (by assumption) rfl)) ?_ | refine ae rfl (ax rfl rfl zG trivial (by assumption)) ?_ | refine ae rfl (cj rfl rfl zG trivial rfl (by assumption) rfl (by decide)) ?_ | refine ae rfl (cd rfl rfl zG (by rfl)) ?_
   try dsimp only [St.put]
   first | refine af rfl (da rfl rfl rfl zG rfl rfl (by rfl) ?_) | refine af rfl (g7 rfl rfl rfl zG (by constructor) rfl zO ?_)
   refine av ?_
   dsimp only [St.put]
   refine hK10 _ ?_
   refine bc ?_
   refine si rfl (i9 rfl zG (by rfl) zC rfl) zN zS ?_
   exact zW
set_option maxHeartbeats 1000000 in
theorem ukp (p : ak) (R C : Nat → Int) (j : Nat) (x : az) (n : Int) (h : gh p) (h0 : c4 p = 0) (hx : p.pages[j]? = some x) (hn : -1000000 ≤ n ∧ n ≤ 1000000) (hR : ∀ i, -1000000 ≤ R i ∧ R i ≤ 1000000) : Pure Tryz.prog 52 [val (gq p R C), .v (.int .i64 (j : Int)), .v (.int .i64 n)] (val (gq p ((cw p).lessR R j n) (fa C j))) := by
 refine di Tryz.func52 rfl (fun m => (ey _ _)) fun G nx => ?_
 simp only [Tryz.ntmps52, List.length_cons, List.length_nil, Nat.reduceAdd, Nat.reduceSub]
 refine cp fun hlt => ?_
 dsimp only at hlt
 have hjl := (List.getElem?_eq_some_iff.1 hx).1
 have hrx := wl hx
 have hn1 := h.nf
 have hn2 := h.ns
 have hnp := h.np
 have hnr : c4 p = p.firsts.length + p.seconds.length := rfl
 have hrl := zg p x
 have hl1 := ju (c4 p) R
 have hl2 := ju p.pages.length C
 have hne2 : dd p.pages.length C ≠ [] := fun e => by rw [e] at hl2; simp at hl2; omega
 have he1 : dd (c4 p) R = [] := by rw [h0]; rfl
 refine ar fun K1 hK1 => ?_
 refine aw ?_
 try dsimp only [St.put]
 refine af rfl (xw rfl rfl ?_)
 try dsimp only [St.put]
 refine af rfl (dt rfl ?_)
 refine av ?_
 dsimp only [St.put]
 refine hK1 _ ?_
 refine ar fun K2 hK2 => ?_
 refine g8 [(0, none), (1, none), (3, none), (4, none), (2, none), (6, none), (5, none), (7, none), (8, none), (9, none)] (fun i => [5, 7, 9].contains i) (fun i => [2, 5, 7, 9].contains i) (fun i => [0, 3, 6, 8].contains i) [nx] (by kernel_rfl) (by kernel_rfl) ?_
 first | refine ah rfl rfl rfl rfl (br rfl rfl rfl) ?_ | refine ah rfl rfl rfl rfl (cr rfl rfl) ?_
 try dsimp only [St.put]
 first | refine ai rfl rfl rfl rfl (bh rfl rfl) ?_ | refine ai rfl rfl rfl rfl (aq rfl rfl (Enc.len _)) ?_ | refine ai rfl rfl rfl rfl (aq rfl rfl rfl) ?_ | refine ai rfl rfl rfl rfl (bz rfl rfl zG (by simp) (by first | rfl | assumption)) ?_ | refine ai rfl rfl rfl rfl (ca rfl rfl zG (by simp) (by rfl)) ?_ | refine ai rfl rfl rfl rfl (cg rfl rfl zG (by simp) (by simp)) ?_ | refine ai rfl rfl rfl rfl (ax rfl rfl zG (by simp) (ci (by assumption) rfl)) ?_ | refine ai rfl rfl rfl rfl (ax rfl rfl zG (by simp) (by assumption)) ?_ | refine ai rfl rfl rfl rfl (cj rfl rfl zG (by simp) rfl (by assumption) rfl (by decide)) ?_ | refine ai rfl rfl rfl rfl (cd rfl rfl zG (by rfl)) ?_
 first | refine ah rfl rfl rfl rfl (br rfl rfl rfl) ?_ | refine ah rfl rfl rfl rfl (cr rfl rfl) ?_
 try dsimp only [St.put]
 first | refine ai rfl rfl rfl rfl (bh rfl rfl) ?_ | refine ai rfl rfl rfl rfl (aq rfl rfl (Enc.len _)) ?_ | refine ai rfl rfl rfl rfl (aq rfl rfl rfl) ?_ | refine ai rfl rfl rfl rfl (bz rfl rfl zG (by simp) (by first | rfl | assumption)) ?_ | refine ai rfl rfl rfl rfl (ca rfl rfl zG (by simp) (by rfl)) ?_ | refine ai rfl rfl rfl rfl (cg rfl rfl zG (by simp) (by simp)) ?_ | refine ai rfl rfl rfl rfl (ax rfl rfl zG (by simp) (ci (by assumption) rfl)) ?_ | refine ai rfl rfl rfl rfl (ax rfl rfl zG (by simp) (by assumption)) ?_ | refine ai rfl rfl rfl rfl (cj rfl rfl zG (by simp) rfl (by assumption) rfl (by decide)) ?_ | refine ai rfl rfl rfl rfl (cd rfl rfl zG (by rfl)) ?_
 refine j4 ?_
 try dsimp only [St.put]
 refine lg rfl rfl rfl (bl rfl rfl rfl (uoe (dd (c4 p) R) he1) ⟨zD, ?_⟩)
 first | refine eo rfl rfl rfl rfl (br rfl rfl rfl) ?_ | refine eo rfl rfl rfl rfl (cr rfl rfl) ?_
 try dsimp only [St.put]
 refine gg rfl rfl rfl rfl (ve rfl rfl rfl (ua3 (dd p.pages.length C) hne2 (by omega) _ _) ?_)
 try dsimp only [St.put]
 first | refine gg rfl rfl rfl rfl (da rfl rfl rfl zG rfl rfl (by rfl) ?_) | refine gg rfl rfl rfl rfl (g7 rfl rfl rfl zG (by constructor) rfl zO ?_)
 first | refine eo rfl rfl rfl rfl (br rfl rfl rfl) ?_ | refine eo rfl rfl rfl rfl (cr rfl rfl) ?_
 try dsimp only [St.put]
 refine gg rfl rfl rfl rfl (g7 rfl rfl rfl zG (by constructor) rfl (by show 1 < 3; decide) ?_)
 refine j3 ?_
 dsimp only [St.put]
 simp only [hl1, hl2]
 refine hK2 _ ?_
 refine ar fun K3 hK3 => ?_
 refine ar fun K4 hK4 => ?_
 refine aw ?_
 first | refine aa rfl (br rfl rfl rfl) ?_ | refine aa rfl (cr rfl rfl) ?_
 try dsimp only [St.put]
 first | refine ae rfl (bh rfl rfl) ?_ | refine ae rfl (aq rfl rfl (Enc.len _)) ?_ | refine ae rfl (aq rfl rfl rfl) ?_ | refine ae rfl (bz rfl rfl zG trivial (by first | rfl | assumption)) ?_ | refine ae rfl (ca rfl rfl zG trivial (by rfl)) ?_ | refine ae rfl (cg rfl rfl zG trivial (by simp)) ?_ | refine ae rfl (ax rfl rfl zG trivial (ci (by assumption) rfl)) ?_ | refine ae rfl (ax rfl rfl zG trivial (by assumption)) ?_ | refine ae rfl (cj rfl rfl zG trivial rfl (by assumption) rfl (by decide)) ?_ | refine ae rfl (cd rfl rfl zG (by rfl)) ?_
 refine aa rfl (ba rfl (by constructor)) ?_
 try dsimp only [St.put]
 first | refine aa rfl (bk rfl rfl rfl rfl (bu (by assumption)) (Enc.len _)) ?_ | refine aa rfl (bk rfl rfl rfl rfl (by assumption) rfl) ?_ | refine aa rfl (g4 rfl rfl rfl (by first | exact g6 _ | exact rfl) (by omega)) ?_ | refine aa rfl (bk rfl rfl rfl (by omega) (bu (by assumption)) (Enc.len _)) ?_
 try dsimp only [St.put]
 first | refine ae rfl (bh rfl rfl) ?_ | refine ae rfl (aq rfl rfl (Enc.len _)) ?_ | refine ae rfl (aq rfl rfl rfl) ?_ | refine ae rfl (bz rfl rfl zG trivial (by first | rfl | assumption)) ?_ | refine ae rfl (ca rfl rfl zG trivial (by rfl)) ?_ | refine ae rfl (cg rfl rfl zG trivial (by simp)) ?_ | refine ae rfl (ax rfl rfl zG trivial (ci (by assumption) rfl)) ?_ | refine ae rfl (ax rfl rfl zG trivial (by assumption)) ?_ | refine ae rfl (cj rfl rfl zG trivial rfl (by assumption) rfl (by decide)) ?_ | refine ae rfl (cd rfl rfl zG (by rfl)) ?_
 first | refine aa rfl (bj rfl rfl (List.length_map _)) ?_ | refine aa rfl (bj rfl rfl rfl) ?_ | refine aa rfl (f7 rfl rfl) ?_ | refine aa rfl (gd rfl rfl) ?_ | refine aa rfl (ga rfl rfl) ?_ | refine aa rfl (f9 rfl rfl (by omega)) ?_
 refine aa rfl (ba rfl (by constructor)) ?_
 refine av ?_
 dsimp only [St.put]
 refine hK4 _ ?_
 refine cb ?_
 refine dh 24 ?_
 refine zQ ?_
 refine dz (X := Nat) (fun k => k ≤ (dw p x).length) (fun k => (dw p x).length - k) (fun k => [(8, .any), (23, .v (.int .i64 (k : Int)))]) (fun k G' => G') 0 rfl ?_ ?_ (fun _ _ h => h) ?_ ?_ ?_
 ·exact Nat.zero_le _
 ·exact zF
 ·rintro k hI
  exact zL
 ·exact fun _ _ _ _ h => .inl h
 ·rintro k hI
  dsimp only at hI ⊢
  refine ar fun K5 hK5 => ?_
  refine aw ?_
  refine aa rfl (c5 rfl rfl rfl) ?_
  refine av ?_
  dsimp only [St.put]
  refine hK5 _ ?_
  refine ar fun K6 hK6 => ?_
  refine bd rfl (fun hc => ?_) (fun hc => ?_)
  ·replace hc := of_decide_eq_true hc
   obtain ⟨zn, hz, hz6⟩ := zf h hx (k := k) (by omega)
   omega
  ·replace hc := of_decide_eq_false hc
   refine dq ?_
   refine hK3 _ ?_
   refine ar fun K7 hK7 => ?_
   refine aw ?_
   first | refine aa rfl (br rfl rfl rfl) ?_ | refine aa rfl (cr rfl rfl) ?_
   try dsimp only [St.put]
   first | refine ae rfl (bh rfl rfl) ?_ | refine ae rfl (aq rfl rfl (Enc.len _)) ?_ | refine ae rfl (aq rfl rfl rfl) ?_ | refine ae rfl (bz rfl rfl zG trivial (by first | rfl | assumption)) ?_ | refine ae rfl (ca rfl rfl zG trivial (by rfl)) ?_ | refine ae rfl (cg rfl rfl zG trivial (by simp)) ?_ | refine ae rfl (ax rfl rfl zG trivial (ci (by assumption) rfl)) ?_ | refine ae rfl (ax rfl rfl zG trivial (by assumption)) ?_ | refine ae rfl (cj rfl rfl zG trivial rfl (by assumption) rfl (by decide)) ?_ | refine ae rfl (cd rfl rfl zG (by rfl)) ?_
   refine aa rfl (ba rfl (by constructor)) ?_
   try dsimp only [St.put]
   refine aa rfl (w9 rfl rfl zG rfl rfl hjl) ?_
   try dsimp only [St.put]
   refine af rfl (uat (k := j) (j := 0) (z := C j) (z' := 0) rfl rfl rfl zG rfl rfl (nd C hjl) rfl (by decide) rfl ?_)
   refine av ?_
   dsimp only [St.put]
   rw [show (dd p.pages.length C).set j 0 = dd p.pages.length (fa C j) from yx C 0 hjl]
   refine hK7 _ ?_
   refine ar fun K8 hK8 => ?_
   refine ubc nx 1 (dd p.pages.length (fa C j)) zG rfl zG (by omega) rfl rfl (ju _ _).symm ?_
   dsimp only [List.set_cons_zero, List.set_cons_succ]
   rw [show dd (c4 p) R = dd (c4 p) ((cw p).lessR R j n) by rw [h0]; rfl]
   refine aw ?_
   try dsimp only [St.put]
   first | refine ae rfl (bh rfl rfl) ?_ | refine ae rfl (aq rfl rfl (Enc.len _)) ?_ | refine ae rfl (aq rfl rfl rfl) ?_ | refine ae rfl (bz rfl rfl zG trivial (by first | rfl | assumption)) ?_ | refine ae rfl (ca rfl rfl zG trivial (by rfl)) ?_ | refine ae rfl (cg rfl rfl zG trivial (by simp)) ?_ | refine ae rfl (ax rfl rfl zG trivial (ci (by assumption) rfl)) ?_ | refine ae rfl (ax rfl rfl zG trivial (by assumption)) ?_ | refine ae rfl (cj rfl rfl zG trivial rfl (by assumption) rfl (by decide)) ?_ | refine ae rfl (cd rfl rfl zG (by rfl)) ?_
   try dsimp only [St.put]
   first | refine af rfl (da rfl rfl rfl zG rfl rfl (by rfl) ?_) | refine af rfl (g7 rfl rfl rfl zG (by constructor) rfl zO ?_)
   refine av ?_
   dsimp only [St.put]
   refine hK8 _ ?_
   refine bc ?_
   refine si rfl (i9 rfl zG (by rfl) zC rfl) zN zS ?_
   exact zW
theorem zl (p : ak) (R C : Nat → Int) (j : Nat) (x : az) (n : Int) (h : gh p) (hx : p.pages[j]? = some x) (hn : -1000000 ≤ n ∧ n ≤ 1000000) (hR : ∀ i, -1000000 ≤ R i ∧ R i ≤ 1000000) : Pure Tryz.prog 52 [val (gq p R C), .v (.int .i64 (j : Int)), .v (.int .i64 n)] (val (gq p ((cw p).lessR R j n) (fa C j))) := by
 by_cases h0 : c4 p = 0
 ·exact ukp p R C j x n h h0 hx hn hR
 ·exact uko p R C j x n h (by omega) hx hn hR
end Go.Proofs.YtgffhbbcpgdjjaaGreatDoor
namespace Go.AB
open Go Go.RowKit
open Go.AB.Enc (cells)
def fu (n : Nat) (F : GObj) (P : Program) (f : FuncId) (args : List C) (r : C) : Prop := ∀ G nx, G n = some F → n < nx → PC P f args G nx fun r' G' nx' => r' = r ∧ G' = G ∧ nx' = nx
theorem eu {n : Nat} {F : GObj} {P : Program} {o : Oper} {st : St} {f : FuncId} [Fun P f] {fv : Operand} {args : List Operand} {ats : Array TypeId} {caps al : List C} {K : St → Prop} {r : C} (ho : o.op = .call { callee := .value fv, args := args.toArray, argTypes := ats }) (hf : evC st fv = .fn (.func f) caps) (has : args.map (evC st) ++ caps = al)
  (hp : fu n F P f al r) (hG : st.G n = some F) (hn : n < st.nx) (h : K (st.put o.dst r)) : EStep P o st K := uav ho hf has (hp _ _ hG hn) h
theorem udw {P : Program} {o : Oper} {st : St} {t : TypeId} {x i : Operand} {m j : Nat} {v : Value} {cs : List C} {d : C} {ds : List C} {e : TypeId} {ik : IntKind} {n : Int} {k sz : Nat} {ag : Bool} [ArrT P t m e] [Ty P e ag sz] (ho : o.op = .indexAddr t x i) (hx : evC st x = .v v) (hG : st.G j = some (.fact v (.elem cs))) (hi : evC st i = .v (.int ik n)) (hn : n = (k : Int)) (hk : k < m) (hd : cs.drop (k * sz) = d :: ds) : NStep P o st (.elem (d :: ds)) := fun E w a hs => by
 subst hn
 have e1 := (hi ▸ hs.ev i).v_inv
 have e0 := (hx ▸ hs.ev x).v_inv
 obtain ⟨b, off, us, hv, h1, h2, h3, h4, _⟩ := (hs.g.obj j _ hG).2.elem_inv
 refine ⟨.pointer (some ⟨b, off + k * sz, none⟩), hd ▸ R.elem_drop h1 h2 h3 h4 (k * sz) (by rw [hd]; simp), fun w' => ?_⟩
 have q1 := ArrT.spec (P := P) (t := t) (n := m) (e := e)
 have q2 := Ty.size (P := P) (w := w') (t := e) (ag := ag) (n := sz)
 have q3 : (k : Int) < (m : Int) := by omega
 simp [execOp, ho, Instr.indexAt, Instr.sureAddr, e0, hv, e1, asIntOf, run_underlying q1, q2, q3, qd]
 intro h; omega
end Go.AB
