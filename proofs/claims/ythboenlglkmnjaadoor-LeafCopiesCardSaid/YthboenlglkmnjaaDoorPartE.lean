/-
  What the walks through the program rest on: values, states, steps, calls (LdRef, KxBefore, LeRef, LfRef, AbCutN).
-/
import Derived.Test.YthboenlglkmnjaaDoorPartD
import Derived.Test.YthboenlglkmnjaaDoorPartC
namespace Go.AB
open Go Go.RowKit
open Go.AB.Enc (cells)
open Go.PB (Chap bd PlaceD bh CopyD bw)
/-- what the readings of a place have made so far -/
def cf (rs : List bh) (p : PlaceD) (own : ByteArray) (i : Nat) : List ByteArray × ByteArray := (dl (rs.take i) p).foldl i4 ([], own)
theorem y9 (rs : List bh) (p : PlaceD) (own : ByteArray) : cf rs p own 0 = ([], own) := by simp [cf, dl]
theorem za {rs : List bh} {p : PlaceD} {own : ByteArray} {i : Nat} {r : bh} (h : rs[i]? = some r) (hp : r.pl = p) : cf rs p own (i + 1) = i4 (cf rs p own i) r := by
 unfold cf dl
 rw [List.take_add_one, h, Option.toList_some, List.filter_append, List.foldl_append]
 simp [hp]
theorem nl {rs : List bh} {p : PlaceD} {own : ByteArray} {i : Nat} {r : bh} (h : rs[i]? = some r) (hp : r.pl ≠ p) : cf rs p own (i + 1) = cf rs p own i := by
 unfold cf dl
 rw [List.take_add_one, h, Option.toList_some, List.filter_append]
 simp [hp]
theorem nk {rs : List bh} {p : PlaceD} {own : ByteArray} {i : Nat} {r : bh} (h : rs[i]? = some r) (hp : r.pl = p) (hk : r.kind = 2) : cf rs p own (i + 1) = ((cf rs p own i).1 ++ [r.word], (cf rs p own i).2) := by rw [za h hp, i4, decide_eq_true hk]; rfl
theorem nj {rs : List bh} {p : PlaceD} {own : ByteArray} {i : Nat} {r : bh} (h : rs[i]? = some r) (hp : r.pl = p) (hk : ¬ r.kind = 2) : cf rs p own (i + 1) = ((cf rs p own i).1, r.word) := by rw [za h hp, i4, decide_eq_false hk]; rfl
theorem xe : ∀ (l : List bh) (a : List ByteArray × ByteArray), (l.foldl i4 a).1.length ≤ a.1.length + l.length
 | [], a => by simp
 | r :: l, a => by
  have h := xe l (i4 a r)
  rw [List.foldl_cons, List.length_cons]
  have : (i4 a r).1.length ≤ a.1.length + 1 := by unfold i4; cases decide (r.kind = 2) <;> simp
  omega
theorem ox (rs : List bh) (p : PlaceD) (own : ByteArray) (i : Nat) : (cf rs p own i).1.length ≤ rs.length := by
 have h1 := xe (dl (rs.take i) p) ([], own)
 have h2 := k9 (rs.take i) p
 rw [List.length_take] at h2
 unfold cf
 simp only [List.length_nil] at h1
 omega
theorem ov (rs : List bh) (ch ln : Int) (l : List ByteArray) (w : Nat) : nd rs ch ln l w = fu (cf rs ⟨ch, ln, w⟩ (ci l w) rs.length) := by unfold nd cf; rw [List.take_length]
theorem ueo (rs : List bh) (ch ln : Int) (l : List ByteArray) (w : Nat) : (nd rs ch ln l w).length ≤ rs.length + 1 := by
 have h := ox rs ⟨ch, ln, w⟩ (ci l w) rs.length
 rw [ov]
 unfold fu
 cases decide ((cf rs ⟨ch, ln, (w : Int)⟩ (ci l w) rs.length).2 = ByteArray.empty) <;> simp <;> omega
theorem wn (rs : List bh) (ch ln : Int) (l : List ByteArray) : ∀ m, (kb rs ch ln l m).length ≤ m * (rs.length + 1)
 | 0 => by simp [kb]
 | m + 1 => by
  have h1 := wn rs ch ln l m
  have h2 := ueo rs ch ln l m
  rw [m3, List.length_append, Nat.succ_mul]
  omega
theorem vt {l : List ByteArray} {w : Nat} {s : ByteArray} (h : l[w]? = some s) : ci l w = s := by unfold ci; rw [h]; rfl
theorem ubh {l : List ByteArray} {w : Nat} (h : l.length ≤ w) : ci l w = ⟨#[]⟩ := by unfold ci; rw [List.getElem?_eq_none h]; rfl
theorem uax {t : bd} {r : bh} {l : List ByteArray} (hw : dm t (r.pl.ch, r.pl.ln) = some l) : fo t r = (bif decide (r.kind = 1) then inB r.pl.wd 0 ((l.length : Int) - 1) && decide (r.word = ByteArray.empty)
  else bif decide (r.kind = 2) then inB r.pl.wd 0 (l.length : Int) && e8 r.word
  else bif decide (r.kind = 3) then inB r.pl.wd 0 ((l.length : Int) - 1) && (e8 r.word && !decide (r.word = ci l r.pl.wd.toNat)) else false) := by
 unfold fo; rw [hw]
end Go.AB
namespace Go.Proofs.YthboenlglkmnjaaDoor
set_option maxRecDepth 10000
open Go.RowKit Go.AB
open Go.AB.Enc (cells)
open Go.PB (Chap bd PlaceD bh CopyD bw)
theorem uau (t : bd) (r : bh) (ht : ck t = true) : Pure Tryd.prog 51 [dn t, val r] (.v (.bool (fo t r))) := by
 refine cx Tryd.func51 rfl (fun m => .v) fun G nx => ?_
 simp only [Tryd.ntmps51, List.length_cons, List.length_nil, Nat.reduceAdd, Nat.reduceSub]
 refine b9 fun hlt => ?_
 dsimp only at hlt
 refine aj fun K1 hK1 => ?_
 refine aq ?_
 try dsimp only [St.put]
 refine av rfl (cw rfl rfl (by simp) ?_)
 try dsimp only [St.put]
 refine av rfl (cw rfl rfl (by simp) ?_)
 refine ae rfl (ax rfl (by constructor)) ?_
 refine am ?_
 dsimp only [St.put]
 refine hK1 _ ?_
 refine aj fun K2 hK2 => ?_
 refine aq ?_
 try dsimp only [St.put]
 first | refine aa rfl (aw rfl rfl) ?_ | refine aa rfl (ah rfl rfl (Enc.len _)) ?_ | refine aa rfl (ah rfl rfl rfl) ?_ | refine aa rfl (a7 rfl rfl zG trivial (by first | rfl | assumption)) ?_ | refine aa rfl (az rfl rfl zG trivial (by rfl)) ?_ | refine aa rfl (a8 rfl rfl zG trivial (by simp)) ?_ | refine aa rfl (ai rfl rfl zG trivial (ay (by assumption) rfl)) ?_ | refine aa rfl (ai rfl rfl zG trivial (by assumption)) ?_ | refine aa rfl (a9 rfl rfl zG trivial rfl (by assumption) rfl (by decide)) ?_ | refine aa rfl (ba rfl rfl zG (by rfl)) ?_
 first | refine ae rfl (bg rfl rfl rfl) ?_ | refine ae rfl (bi rfl rfl) ?_
 try dsimp only [St.put]
 refine aa rfl (c := val r.pl) (io (cs := cells r) rfl rfl (show 3 ≤ 5 by decide)) ?_
 try dsimp only [St.put]
 refine av rfl (br rfl rfl rfl (uv t r.pl ht) ?_)
 refine ae rfl (ar rfl (by constructor)) ?_
 refine ae rfl (da rfl rfl rfl) ?_
 refine ae rfl (da rfl rfl rfl) ?_
 refine ae rfl (ax rfl (by constructor)) ?_
 refine ae rfl (ax rfl (by constructor)) ?_
 refine am ?_
 dsimp only [St.put]
 refine hK2 _ ?_
 refine aj fun K3 hK3 => ?_
 refine aj fun K4 hK4 => ?_
 by_cases hw : dm t (r.pl.ch, r.pl.ln) = none
 ·rw [hw]
  dsimp only [Option.getD_none, Option.isSome_none]
  refine aq ?_
  refine ae rfl (ar rfl (by constructor)) ?_
  refine ae rfl (dt rfl rfl) ?_
  refine am ?_
  dsimp only [St.put]
  refine hK4 _ ?_
  refine bl rfl (fun _ => ?_) (fun h => by cases h)
  refine aj fun K5 hK5 => ?_
  refine aq ?_
  refine ae rfl (ax rfl (by constructor)) ?_
  refine am ?_
  dsimp only [St.put]
  refine hK5 _ ?_
  refine bk ?_
  refine bo rfl (by constructor) zN zS ?_
  exact vb (ry hw).symm
 ·obtain ⟨l, hw2⟩ := Option.ne_none_iff_exists'.1 hw
  rw [hw2]
  dsimp only [Option.getD_some, Option.isSome_some]
  obtain ⟨_, _, _, _, hl1, hl10⟩ := nm ht hw2
  have hrB := uax hw2
  obtain ⟨R, hR⟩ : ∃ R, fo t r = R := ⟨_, rfl⟩
  rw [hR] at hrB
  refine aq ?_
  refine ae rfl (ar rfl (by constructor)) ?_
  refine ae rfl (dt rfl rfl) ?_
  refine am ?_
  dsimp only [St.put]
  refine hK4 _ ?_
  refine bl rfl (fun h => by cases h) (fun _ => ?_)
  refine bn ?_
  refine hK3 _ ?_
  refine aj fun K6 hK6 => ?_
  refine aj fun K7 hK7 => ?_
  refine aq ?_
  first | refine ae rfl (bg rfl rfl rfl) ?_ | refine ae rfl (bi rfl rfl) ?_
  try dsimp only [St.put]
  first | refine aa rfl (aw rfl rfl) ?_ | refine aa rfl (ah rfl rfl (Enc.len _)) ?_ | refine aa rfl (ah rfl rfl rfl) ?_ | refine aa rfl (a7 rfl rfl zG trivial (by first | rfl | assumption)) ?_ | refine aa rfl (az rfl rfl zG trivial (by rfl)) ?_ | refine aa rfl (a8 rfl rfl zG trivial (by simp)) ?_ | refine aa rfl (ai rfl rfl zG trivial (ay (by assumption) rfl)) ?_ | refine aa rfl (ai rfl rfl zG trivial (by assumption)) ?_ | refine aa rfl (a9 rfl rfl zG trivial rfl (by assumption) rfl (by decide)) ?_ | refine aa rfl (ba rfl rfl zG (by rfl)) ?_
  refine am ?_
  dsimp only [St.put]
  refine hK7 _ ?_
  refine bq ?_
  refine aj fun K8 hK8 => ?_
  refine aq ?_
  refine ae rfl (dy rfl rfl rfl) ?_
  refine ae rfl (ax rfl (by constructor)) ?_
  refine am ?_
  dsimp only [St.put]
  refine hK8 _ ?_
  refine bl rfl (fun hc => ?_) (fun hc => ?_)
  ·have h1 : r.kind = 1 := of_decide_eq_true hc
   refine aj fun K9 hK9 => ?_
   refine aq ?_
   first | refine ae rfl (bg rfl rfl rfl) ?_ | refine ae rfl (bi rfl rfl) ?_
   first | refine ae rfl (bg rfl rfl rfl) ?_ | refine ae rfl (bi rfl rfl) ?_
   try dsimp only [St.put]
   first | refine aa rfl (aw rfl rfl) ?_ | refine aa rfl (ah rfl rfl (Enc.len _)) ?_ | refine aa rfl (ah rfl rfl rfl) ?_ | refine aa rfl (a7 rfl rfl zG trivial (by first | rfl | assumption)) ?_ | refine aa rfl (az rfl rfl zG trivial (by rfl)) ?_ | refine aa rfl (a8 rfl rfl zG trivial (by simp)) ?_ | refine aa rfl (ai rfl rfl zG trivial (ay (by assumption) rfl)) ?_ | refine aa rfl (ai rfl rfl zG trivial (by assumption)) ?_ | refine aa rfl (a9 rfl rfl zG trivial rfl (by assumption) rfl (by decide)) ?_ | refine aa rfl (ba rfl rfl zG (by rfl)) ?_
   refine ae rfl (ar rfl (by constructor)) ?_
   first | refine ae rfl (bj rfl rfl (List.length_map _)) ?_ | refine ae rfl (bj rfl rfl rfl) ?_ | refine ae rfl (b8 rfl rfl) ?_ | refine ae rfl (cd rfl rfl) ?_ | refine ae rfl (cb rfl rfl) ?_ | refine ae rfl (ca rfl rfl (by omega)) ?_
   first | refine ae rfl (ip rfl rfl rfl (by omega)) ?_ | refine ae rfl (jh rfl rfl rfl) ?_
   try dsimp only [St.put]
   refine av rfl (br rfl rfl rfl (jd _ _ _) ?_)
   refine ae rfl (ar rfl (by constructor)) ?_
   refine et (fun hs => ?_) (fun hs => ?_)
   ·have hs1 := hs
    first | refine ae rfl (bg rfl rfl rfl) ?_ | refine ae rfl (bi rfl rfl) ?_
    try dsimp only [St.put]
    first | refine aa rfl (aw rfl rfl) ?_ | refine aa rfl (ah rfl rfl (Enc.len _)) ?_ | refine aa rfl (ah rfl rfl rfl) ?_ | refine aa rfl (a7 rfl rfl zG trivial (by first | rfl | assumption)) ?_ | refine aa rfl (az rfl rfl zG trivial (by rfl)) ?_ | refine aa rfl (a8 rfl rfl zG trivial (by simp)) ?_ | refine aa rfl (ai rfl rfl zG trivial (ay (by assumption) rfl)) ?_ | refine aa rfl (ai rfl rfl zG trivial (by assumption)) ?_ | refine aa rfl (a9 rfl rfl zG trivial rfl (by assumption) rfl (by decide)) ?_ | refine aa rfl (ba rfl rfl zG (by rfl)) ?_
    refine ae rfl (lg rfl rfl rfl) ?_
    first | refine ae rfl (bt rfl rfl (by constructor)) ?_ | refine ae rfl (bu rfl rfl (by constructor)) ?_ | refine ae rfl (b7 rfl rfl rfl rfl) ?_ | refine ae rfl (bz rfl rfl rfl rfl) ?_
    refine ae rfl (ax rfl (by constructor)) ?_
    refine am ?_
    dsimp only [St.put]
    refine hK9 _ ?_
    refine bk ?_
    refine bo rfl (by constructor) zN zS ?_
    exact vb (by rw [hR, hrB]; simp [h1, hs1]; try rfl)
   ·have hs1 := hs
    refine bv rfl ?_
    refine bv rfl ?_
    refine bv rfl ?_
    first | refine ae rfl (bt rfl rfl (by constructor)) ?_ | refine ae rfl (bu rfl rfl (by constructor)) ?_ | refine ae rfl (b7 rfl rfl rfl rfl) ?_ | refine ae rfl (bz rfl rfl rfl rfl) ?_
    refine ae rfl (ax rfl (by constructor)) ?_
    refine am ?_
    dsimp only [St.put]
    refine hK9 _ ?_
    refine bk ?_
    refine bo rfl (by constructor) zN zS ?_
    exact vb (by rw [hR, hrB]; simp [h1, hs1]; try rfl)
  ·have h1 : ¬ r.kind = 1 := of_decide_eq_false hc
   refine aj fun K10 hK10 => ?_
   refine aq ?_
   refine ae rfl (dy rfl rfl rfl) ?_
   refine ae rfl (ax rfl (by constructor)) ?_
   refine am ?_
   dsimp only [St.put]
   refine hK10 _ ?_
   refine bl rfl (fun hc => ?_) (fun hc => ?_)
   ·have h2 : r.kind = 2 := of_decide_eq_true hc
    refine aj fun K11 hK11 => ?_
    refine aq ?_
    first | refine ae rfl (bg rfl rfl rfl) ?_ | refine ae rfl (bi rfl rfl) ?_
    first | refine ae rfl (bg rfl rfl rfl) ?_ | refine ae rfl (bi rfl rfl) ?_
    try dsimp only [St.put]
    first | refine aa rfl (aw rfl rfl) ?_ | refine aa rfl (ah rfl rfl (Enc.len _)) ?_ | refine aa rfl (ah rfl rfl rfl) ?_ | refine aa rfl (a7 rfl rfl zG trivial (by first | rfl | assumption)) ?_ | refine aa rfl (az rfl rfl zG trivial (by rfl)) ?_ | refine aa rfl (a8 rfl rfl zG trivial (by simp)) ?_ | refine aa rfl (ai rfl rfl zG trivial (ay (by assumption) rfl)) ?_ | refine aa rfl (ai rfl rfl zG trivial (by assumption)) ?_ | refine aa rfl (a9 rfl rfl zG trivial rfl (by assumption) rfl (by decide)) ?_ | refine aa rfl (ba rfl rfl zG (by rfl)) ?_
    refine ae rfl (ar rfl (by constructor)) ?_
    first | refine ae rfl (bj rfl rfl (List.length_map _)) ?_ | refine ae rfl (bj rfl rfl rfl) ?_ | refine ae rfl (b8 rfl rfl) ?_ | refine ae rfl (cd rfl rfl) ?_ | refine ae rfl (cb rfl rfl) ?_ | refine ae rfl (ca rfl rfl (by omega)) ?_
    try dsimp only [St.put]
    refine av rfl (br rfl rfl rfl (jd _ _ _) ?_)
    refine ae rfl (ar rfl (by constructor)) ?_
    refine et (fun hs => ?_) (fun hs => ?_)
    ·have hs1 := hs
     first | refine ae rfl (bg rfl rfl rfl) ?_ | refine ae rfl (bi rfl rfl) ?_
     try dsimp only [St.put]
     first | refine aa rfl (aw rfl rfl) ?_ | refine aa rfl (ah rfl rfl (Enc.len _)) ?_ | refine aa rfl (ah rfl rfl rfl) ?_ | refine aa rfl (a7 rfl rfl zG trivial (by first | rfl | assumption)) ?_ | refine aa rfl (az rfl rfl zG trivial (by rfl)) ?_ | refine aa rfl (a8 rfl rfl zG trivial (by simp)) ?_ | refine aa rfl (ai rfl rfl zG trivial (ay (by assumption) rfl)) ?_ | refine aa rfl (ai rfl rfl zG trivial (by assumption)) ?_ | refine aa rfl (a9 rfl rfl zG trivial rfl (by assumption) rfl (by decide)) ?_ | refine aa rfl (ba rfl rfl zG (by rfl)) ?_
     try dsimp only [St.put]
     refine av rfl (br rfl rfl rfl (tg _) ?_)
     first | refine ae rfl (bt rfl rfl (by constructor)) ?_ | refine ae rfl (bu rfl rfl (by constructor)) ?_ | refine ae rfl (b7 rfl rfl rfl rfl) ?_ | refine ae rfl (bz rfl rfl rfl rfl) ?_
     refine ae rfl (ax rfl (by constructor)) ?_
     refine am ?_
     dsimp only [St.put]
     refine hK11 _ ?_
     refine bk ?_
     refine bo rfl (by constructor) zN zS ?_
     exact vb (by rw [hR, hrB]; simp [h1, h2, hs1])
    ·have hs1 := hs
     refine bv rfl ?_
     refine bv rfl ?_
     refine bv rfl ?_
     first | refine ae rfl (bt rfl rfl (by constructor)) ?_ | refine ae rfl (bu rfl rfl (by constructor)) ?_ | refine ae rfl (b7 rfl rfl rfl rfl) ?_ | refine ae rfl (bz rfl rfl rfl rfl) ?_
     refine ae rfl (ax rfl (by constructor)) ?_
     refine am ?_
     dsimp only [St.put]
     refine hK11 _ ?_
     refine bk ?_
     refine bo rfl (by constructor) zN zS ?_
     exact vb (by rw [hR, hrB]; simp [h1, h2, hs1])
   ·have h2 : ¬ r.kind = 2 := of_decide_eq_false hc
    refine aj fun K12 hK12 => ?_
    refine aq ?_
    refine ae rfl (dy rfl rfl rfl) ?_
    refine ae rfl (ax rfl (by constructor)) ?_
    refine am ?_
    dsimp only [St.put]
    refine hK12 _ ?_
    refine bl rfl (fun hc => ?_) (fun hc => ?_)
    ·have h3 : r.kind = 3 := of_decide_eq_true hc
     refine aj fun K13 hK13 => ?_
     refine kx [(0, none), (1, none), (2, none), (3, none), (4, none), (5, none)] (fun _ => false) (fun i => [0, 1, 3, 4, 5].contains i) 18 (rl [6, 18]) (by kernel_rfl) (by kernel_rfl) ?_
     first | refine ak rfl rfl rfl rfl (bg rfl rfl rfl) ?_ | refine ak rfl rfl rfl rfl (bi rfl rfl) ?_
     first | refine ak rfl rfl rfl rfl (bg rfl rfl rfl) ?_ | refine ak rfl rfl rfl rfl (bi rfl rfl) ?_
     try dsimp only [St.put]
     first | refine af rfl rfl rfl rfl (aw rfl rfl) ?_ | refine af rfl rfl rfl rfl (ah rfl rfl (Enc.len _)) ?_ | refine af rfl rfl rfl rfl (ah rfl rfl rfl) ?_ | refine af rfl rfl rfl rfl (a7 rfl rfl zG (by simp) (by first | rfl | assumption)) ?_ | refine af rfl rfl rfl rfl (az rfl rfl zG (by simp) (by rfl)) ?_ | refine af rfl rfl rfl rfl (a8 rfl rfl zG (by simp) (by simp)) ?_ | refine af rfl rfl rfl rfl (ai rfl rfl zG (by simp) (ay (by assumption) rfl)) ?_ | refine af rfl rfl rfl rfl (ai rfl rfl zG (by simp) (by assumption)) ?_ | refine af rfl rfl rfl rfl (a9 rfl rfl zG (by simp) rfl (by assumption) rfl (by decide)) ?_ | refine af rfl rfl rfl rfl (ba rfl rfl zG (by rfl)) ?_
     refine ak rfl rfl rfl rfl (ar rfl (by constructor)) ?_
     first | refine ak rfl rfl rfl rfl (bj rfl rfl (List.length_map _)) ?_ | refine ak rfl rfl rfl rfl (bj rfl rfl rfl) ?_ | refine ak rfl rfl rfl rfl (b8 rfl rfl) ?_ | refine ak rfl rfl rfl rfl (cd rfl rfl) ?_ | refine ak rfl rfl rfl rfl (cb rfl rfl) ?_ | refine ak rfl rfl rfl rfl (ca rfl rfl (by omega)) ?_
     first | refine ak rfl rfl rfl rfl (ip rfl rfl rfl (by omega)) ?_ | refine ak rfl rfl rfl rfl (jh rfl rfl rfl) ?_
     refine dc ?_
     refine dj [6] (by kernel_rfl) (by simp) ?_
     refine dz ?_ ?_
     ·try dsimp only [St.put]
      refine dr rfl rfl rfl (br rfl rfl rfl (jd _ _ _) ?_)
      refine fm [(7, none), (8, none), (9, none)] (fun i => [7, 8].contains i) 14 (rl [10, 14]) (by kernel_rfl) ?_
      refine ak rfl rfl rfl rfl (ar rfl (by constructor)) ?_
      refine k7 (fun hs => ?_) (fun hs => ?_)
      ·have hs1 := hs
       have hb := inB_true.1 hs
       obtain ⟨x, hx⟩ : ∃ x, l[r.pl.wd.toNat]? = some x := cm (by omega)
       have hwn : r.pl.wd = ((r.pl.wd.toNat : Nat) : Int) := by omega
       have hox := vt hx
       first | refine ak rfl rfl rfl rfl (bg rfl rfl rfl) ?_ | refine ak rfl rfl rfl rfl (bi rfl rfl) ?_
       try dsimp only [St.put]
       first | refine af rfl rfl rfl rfl (aw rfl rfl) ?_ | refine af rfl rfl rfl rfl (ah rfl rfl (Enc.len _)) ?_ | refine af rfl rfl rfl rfl (ah rfl rfl rfl) ?_ | refine af rfl rfl rfl rfl (a7 rfl rfl zG (by simp) (by first | rfl | assumption)) ?_ | refine af rfl rfl rfl rfl (az rfl rfl zG (by simp) (by rfl)) ?_ | refine af rfl rfl rfl rfl (a8 rfl rfl zG (by simp) (by simp)) ?_ | refine af rfl rfl rfl rfl (ai rfl rfl zG (by simp) (ay (by assumption) rfl)) ?_ | refine af rfl rfl rfl rfl (ai rfl rfl zG (by simp) (by assumption)) ?_ | refine af rfl rfl rfl rfl (a9 rfl rfl zG (by simp) rfl (by assumption) rfl (by decide)) ?_ | refine af rfl rfl rfl rfl (ba rfl rfl zG (by rfl)) ?_
       refine dc ?_
       refine dj [10] (by kernel_rfl) (by simp) ?_
       refine dz ?_ ?_
       ·try dsimp only [St.put]
        refine dr rfl rfl rfl (br rfl rfl rfl (tg _) ?_)
        refine fm [(11, none), (12, none), (13, none), (14, none), (15, none), (16, none), (17, none), (18, none), (19, none), (20, none), (21, none), (22, none), (23, none)] (fun i => [11, 12, 13, 15, 16, 17, 19, 21, 22, 23].contains i) 0 (rl [24]) (by kernel_rfl) ?_
        first | refine ak rfl rfl rfl rfl (bt rfl rfl (by constructor)) ?_ | refine ak rfl rfl rfl rfl (bu rfl rfl (by constructor)) ?_ | refine ak rfl rfl rfl rfl (b7 rfl rfl rfl rfl) ?_ | refine ak rfl rfl rfl rfl (bz rfl rfl rfl rfl) ?_
        refine ak rfl rfl rfl rfl (ar rfl (by constructor)) ?_
        refine k7 (fun hs => ?_) (fun hs => ?_)
        ·have hs2 := hs
         first | refine ak rfl rfl rfl rfl (bg rfl rfl rfl) ?_ | refine ak rfl rfl rfl rfl (bi rfl rfl) ?_
         try dsimp only [St.put]
         first | refine af rfl rfl rfl rfl (aw rfl rfl) ?_ | refine af rfl rfl rfl rfl (ah rfl rfl (Enc.len _)) ?_ | refine af rfl rfl rfl rfl (ah rfl rfl rfl) ?_ | refine af rfl rfl rfl rfl (a7 rfl rfl zG (by simp) (by first | rfl | assumption)) ?_ | refine af rfl rfl rfl rfl (az rfl rfl zG (by simp) (by rfl)) ?_ | refine af rfl rfl rfl rfl (a8 rfl rfl zG (by simp) (by simp)) ?_ | refine af rfl rfl rfl rfl (ai rfl rfl zG (by simp) (ay (by assumption) rfl)) ?_ | refine af rfl rfl rfl rfl (ai rfl rfl zG (by simp) (by assumption)) ?_ | refine af rfl rfl rfl rfl (a9 rfl rfl zG (by simp) rfl (by assumption) rfl (by decide)) ?_ | refine af rfl rfl rfl rfl (ba rfl rfl zG (by rfl)) ?_
         refine ak rfl rfl rfl rfl (ar rfl (by constructor)) ?_
         first | refine ak rfl rfl rfl rfl (bg rfl rfl rfl) ?_ | refine ak rfl rfl rfl rfl (bi rfl rfl) ?_
         first | refine ak rfl rfl rfl rfl (bg rfl rfl rfl) ?_ | refine ak rfl rfl rfl rfl (bi rfl rfl) ?_
         try dsimp only [St.put]
         first | refine af rfl rfl rfl rfl (aw rfl rfl) ?_ | refine af rfl rfl rfl rfl (ah rfl rfl (Enc.len _)) ?_ | refine af rfl rfl rfl rfl (ah rfl rfl rfl) ?_ | refine af rfl rfl rfl rfl (a7 rfl rfl zG (by simp) (by first | rfl | assumption)) ?_ | refine af rfl rfl rfl rfl (az rfl rfl zG (by simp) (by rfl)) ?_ | refine af rfl rfl rfl rfl (a8 rfl rfl zG (by simp) (by simp)) ?_ | refine af rfl rfl rfl rfl (ai rfl rfl zG (by simp) (ay (by assumption) rfl)) ?_ | refine af rfl rfl rfl rfl (ai rfl rfl zG (by simp) (by assumption)) ?_ | refine af rfl rfl rfl rfl (a9 rfl rfl zG (by simp) rfl (by assumption) rfl (by decide)) ?_ | refine af rfl rfl rfl rfl (ba rfl rfl zG (by rfl)) ?_
         try dsimp only [St.put]
         first | refine ak rfl rfl rfl rfl (bf rfl rfl rfl rfl (bm (by assumption)) (Enc.len _)) ?_ | refine ak rfl rfl rfl rfl (bf rfl rfl rfl rfl (by assumption) rfl) ?_ | refine ak rfl rfl rfl rfl (cr rfl rfl rfl (by first | exact ct _ | exact rfl) (by omega)) ?_ | refine ak rfl rfl rfl rfl (bf rfl rfl rfl (by omega) (bm (by assumption)) (Enc.len _)) ?_
         try dsimp only [St.put]
         first | refine af rfl rfl rfl rfl (aw rfl rfl) ?_ | refine af rfl rfl rfl rfl (ah rfl rfl (Enc.len _)) ?_ | refine af rfl rfl rfl rfl (ah rfl rfl rfl) ?_ | refine af rfl rfl rfl rfl (a7 rfl rfl zG (by simp) (by first | rfl | assumption)) ?_ | refine af rfl rfl rfl rfl (az rfl rfl zG (by simp) (by rfl)) ?_ | refine af rfl rfl rfl rfl (a8 rfl rfl zG (by simp) (by simp)) ?_ | refine af rfl rfl rfl rfl (ai rfl rfl zG (by simp) (ay (by assumption) rfl)) ?_ | refine af rfl rfl rfl rfl (ai rfl rfl zG (by simp) (by assumption)) ?_ | refine af rfl rfl rfl rfl (a9 rfl rfl zG (by simp) rfl (by assumption) rfl (by decide)) ?_ | refine af rfl rfl rfl rfl (ba rfl rfl zG (by rfl)) ?_
         refine ak rfl rfl rfl rfl (me rfl rfl rfl) ?_
         first | refine ak rfl rfl rfl rfl (bt rfl rfl (by constructor)) ?_ | refine ak rfl rfl rfl rfl (bu rfl rfl (by constructor)) ?_ | refine ak rfl rfl rfl rfl (b7 rfl rfl rfl rfl) ?_ | refine ak rfl rfl rfl rfl (bz rfl rfl rfl rfl) ?_
         refine ak rfl rfl rfl rfl (ax rfl (by constructor)) ?_
         refine dc ?_
         dsimp only [St.put]
         refine gw (by kernel_rfl) ?_
         refine hK13 _ ?_
         refine bk ?_
         refine bo rfl (by constructor) zN zS ?_
         exact vb (by rw [hR, hrB]; first | (simp [h3, hs1, hs2, hox]; done) | (simp [h3, hs1, hs2]; done) | (simp [h3, hs1]; done))
        ·have hs2 := hs
         refine bp rfl rfl rfl ?_
         refine bp rfl rfl rfl ?_
         refine bp rfl rfl rfl ?_
         refine bp rfl rfl rfl ?_
         refine bp rfl rfl rfl ?_
         refine bp rfl rfl rfl ?_
         refine bp rfl rfl rfl ?_
         refine bp rfl rfl rfl ?_
         refine bp rfl rfl rfl ?_
         first | refine ak rfl rfl rfl rfl (bt rfl rfl (by constructor)) ?_ | refine ak rfl rfl rfl rfl (bu rfl rfl (by constructor)) ?_ | refine ak rfl rfl rfl rfl (b7 rfl rfl rfl rfl) ?_ | refine ak rfl rfl rfl rfl (bz rfl rfl rfl rfl) ?_
         refine ak rfl rfl rfl rfl (ax rfl (by constructor)) ?_
         refine dc ?_
         dsimp only [St.put]
         refine gw (by kernel_rfl) ?_
         refine hK13 _ ?_
         refine bk ?_
         refine bo rfl (by constructor) zN zS ?_
         exact vb (by rw [hR, hrB]; first | (simp [h3, hs1, hs2, hox]; done) | (simp [h3, hs1, hs2]; done) | (simp [h3, hs1]; done))
       exact d8
      ·have hs1 := hs
       refine bp rfl rfl rfl ?_
       refine bp rfl rfl rfl ?_
       refine dc ?_
       refine dj [10] (by kernel_rfl) (by simp) ?_
       refine dz ?_ ?_
       ·refine mp rfl rfl rfl ?_
        refine fm [(11, none), (12, none), (13, none), (14, none), (15, none), (16, none), (17, none), (18, none), (19, none), (20, none), (21, none), (22, none), (23, none)] (fun i => [11, 12, 13, 15, 16, 17, 19, 21, 22, 23].contains i) 0 (rl [24]) (by kernel_rfl) ?_
        first | refine ak rfl rfl rfl rfl (bt rfl rfl (by constructor)) ?_ | refine ak rfl rfl rfl rfl (bu rfl rfl (by constructor)) ?_ | refine ak rfl rfl rfl rfl (b7 rfl rfl rfl rfl) ?_ | refine ak rfl rfl rfl rfl (bz rfl rfl rfl rfl) ?_
        refine ak rfl rfl rfl rfl (ar rfl (by constructor)) ?_
        refine bp rfl rfl rfl ?_
        refine bp rfl rfl rfl ?_
        refine bp rfl rfl rfl ?_
        refine bp rfl rfl rfl ?_
        refine bp rfl rfl rfl ?_
        refine bp rfl rfl rfl ?_
        refine bp rfl rfl rfl ?_
        refine bp rfl rfl rfl ?_
        refine bp rfl rfl rfl ?_
        first | refine ak rfl rfl rfl rfl (bt rfl rfl (by constructor)) ?_ | refine ak rfl rfl rfl rfl (bu rfl rfl (by constructor)) ?_ | refine ak rfl rfl rfl rfl (b7 rfl rfl rfl rfl) ?_ | refine ak rfl rfl rfl rfl (bz rfl rfl rfl rfl) ?_
        refine ak rfl rfl rfl rfl (ax rfl (by constructor)) ?_
        refine dc ?_
        dsimp only [St.put]
        refine gw (by kernel_rfl) ?_
        refine hK13 _ ?_
        refine bk ?_
        refine bo rfl (by constructor) zN zS ?_
        exact vb (by rw [hR, hrB]; first | (simp [h3, hs1, hs2, hox]; done) | (simp [h3, hs1, hs2]; done) | (simp [h3, hs1]; done))
       exact d8
     exact d8
    ·have h3 : ¬ r.kind = 3 := of_decide_eq_false hc
     refine bn ?_
     refine hK6 _ ?_
     refine aj fun K14 hK14 => ?_
     refine aq ?_
     refine ae rfl (ax rfl (by constructor)) ?_
     refine am ?_
     dsimp only [St.put]
     refine hK14 _ ?_
     refine bk ?_
     refine bo rfl (by constructor) zN zS ?_
     exact vb (by rw [hR, hrB]; simp [h1, h2, h3])
set_option maxHeartbeats 1000000 in
theorem uu (t : bd) (c : CopyD) (k n : Nat) (x : Chap) (l : List ByteArray) (ht : ck t = true) (hl20 : c.rs.length ≤ 20) (hk : t[k]? = some x) (hn : x.lines[n]? = some l) : Pure Tryd.prog 21 [dn t, val c, .v (.int .i64 (k : Int)), .v (.int .i64 (n : Int))] (lst (gz c.rs (k : Int) (n : Int) l)) := by
 refine cx Tryd.func21 rfl (fun m => (ce _ _)) fun G nx => ?_
 simp only [Tryd.ntmps21, List.length_cons, List.length_nil, Nat.reduceAdd, Nat.reduceSub]
 refine b9 fun hlt => ?_
 dsimp only at hlt
 obtain ⟨hl1, hl2, hl3⟩ := i3 ht
 have hxl := hl3 x (dv hk)
 have hll := hxl.2.2 l (dv hn)
 have hkl := (List.getElem?_eq_some_iff.1 hk).1
 have hnl := (List.getElem?_eq_some_iff.1 hn).1
 refine aj fun K1 hK1 => ?_
 refine aq ?_
 try dsimp only [St.put]
 refine av rfl (cw rfl rfl (by simp) ?_)
 try dsimp only [St.put]
 refine av rfl (cw rfl rfl (by simp) ?_)
 refine ae rfl (ax rfl (by constructor)) ?_
 refine am ?_
 dsimp only [St.put]
 refine hK1 _ ?_
 refine aj fun K2 hK2 => ?_
 refine aq ?_
 refine ae rfl (ax rfl (by constructor)) ?_
 refine am ?_
 dsimp only [St.put]
 refine hK2 _ ?_
 refine qx 9 9 1 rfl (by decide) ?_
 dsimp only [List.set_cons_zero, List.set_cons_succ]
 refine aj fun K3 hK3 => ?_
 refine aq ?_
 first | refine ae rfl (bg rfl rfl rfl) ?_ | refine ae rfl (bi rfl rfl) ?_
 try dsimp only [St.put]
 first | refine aa rfl (aw rfl rfl) ?_ | refine aa rfl (ah rfl rfl (Enc.len _)) ?_ | refine aa rfl (ah rfl rfl rfl) ?_ | refine aa rfl (a7 rfl rfl zG trivial (by first | rfl | assumption)) ?_ | refine aa rfl (az rfl rfl zG trivial (by rfl)) ?_ | refine aa rfl (a8 rfl rfl zG trivial (by simp)) ?_ | refine aa rfl (ai rfl rfl zG trivial (ay (by assumption) rfl)) ?_ | refine aa rfl (ai rfl rfl zG trivial (by assumption)) ?_ | refine aa rfl (a9 rfl rfl zG trivial rfl (by assumption) rfl (by decide)) ?_ | refine aa rfl (ba rfl rfl zG (by rfl)) ?_
 refine ae rfl (ar rfl (by constructor)) ?_
 try dsimp only [St.put]
 first | refine ae rfl (bf rfl rfl rfl rfl (bm (by assumption)) (Enc.len _)) ?_ | refine ae rfl (bf rfl rfl rfl rfl (by assumption) rfl) ?_ | refine ae rfl (cr rfl rfl rfl (by first | exact ct _ | exact rfl) (by omega)) ?_ | refine ae rfl (bf rfl rfl rfl (by omega) (bm (by assumption)) (Enc.len _)) ?_
 first | refine ae rfl (bg rfl rfl rfl) ?_ | refine ae rfl (bi rfl rfl) ?_
 try dsimp only [St.put]
 first | refine aa rfl (aw rfl rfl) ?_ | refine aa rfl (ah rfl rfl (Enc.len _)) ?_ | refine aa rfl (ah rfl rfl rfl) ?_ | refine aa rfl (a7 rfl rfl zG trivial (by first | rfl | assumption)) ?_ | refine aa rfl (az rfl rfl zG trivial (by rfl)) ?_ | refine aa rfl (a8 rfl rfl zG trivial (by simp)) ?_ | refine aa rfl (ai rfl rfl zG trivial (ay (by assumption) rfl)) ?_ | refine aa rfl (ai rfl rfl zG trivial (by assumption)) ?_ | refine aa rfl (a9 rfl rfl zG trivial rfl (by assumption) rfl (by decide)) ?_ | refine aa rfl (ba rfl rfl zG (by rfl)) ?_
 refine ae rfl (ar rfl (by constructor)) ?_
 try dsimp only [St.put]
 first | refine ae rfl (bf rfl rfl rfl rfl (bm (by assumption)) (Enc.len _)) ?_ | refine ae rfl (bf rfl rfl rfl rfl (by assumption) rfl) ?_ | refine ae rfl (cr rfl rfl rfl (by first | exact ct _ | exact rfl) (by omega)) ?_ | refine ae rfl (bf rfl rfl rfl (by omega) (bm (by assumption)) (Enc.len _)) ?_
 try dsimp only [St.put]
 first | refine aa rfl (aw rfl rfl) ?_ | refine aa rfl (ah rfl rfl (Enc.len _)) ?_ | refine aa rfl (ah rfl rfl rfl) ?_ | refine aa rfl (a7 rfl rfl zG trivial (by first | rfl | assumption)) ?_ | refine aa rfl (az rfl rfl zG trivial (by rfl)) ?_ | refine aa rfl (a8 rfl rfl zG trivial (by simp)) ?_ | refine aa rfl (ai rfl rfl zG trivial (ay (by assumption) rfl)) ?_ | refine aa rfl (ai rfl rfl zG trivial (by assumption)) ?_ | refine aa rfl (a9 rfl rfl zG trivial rfl (by assumption) rfl (by decide)) ?_ | refine aa rfl (ba rfl rfl zG (by rfl)) ?_
 refine ae rfl (ax rfl (by constructor)) ?_
 refine am ?_
 dsimp only [St.put]
 refine hK3 _ ?_
 refine aj fun K4 hK4 => ?_
 refine aj fun K5 hK5 => ?_
 refine aq ?_
 refine ae rfl (ax rfl (by constructor)) ?_
 refine am ?_
 dsimp only [St.put]
 refine hK5 _ ?_
 refine bq ?_
 refine cg 15 ?_
 refine zQ ?_
 refine cn ((bc G nx (.tip (([] : List ByteArray)).length 9 1))) zX ?_
 dsimp only
 refine cz (X := Nat) (fun w => w ≤ l.length + 1) (fun w => l.length + 1 - w) (fun w => [(9, .list ((kb c.rs (k : Int) (n : Int) l w).map cells) (.tip nx)), (11, .v (.int .i64 (w : Int))), (12, .any), (13, .any), (14, .any)]) (fun w G' => (bc G nx (.tip ((kb c.rs (k : Int) (n : Int) l w)).length 9 1))) 0 rfl ?_ ?_ ?_ ?_ ?_ ?_
 ·exact Nat.zero_le _
 ·exact zF
 ·exact zX
 ·rintro w hI
  exact zL
 ·rintro w hI
  exact zH
 ·rintro w hI
  dsimp only at hI ⊢
  refine aj fun K6 hK6 => ?_
  refine aj fun K7 hK7 => ?_
  refine aq ?_
  refine ae rfl (ar rfl (by constructor)) ?_
  refine ae rfl (ar rfl (by constructor)) ?_
  first | refine ae rfl (bj rfl rfl (List.length_map _)) ?_ | refine ae rfl (bj rfl rfl rfl) ?_ | refine ae rfl (b8 rfl rfl) ?_ | refine ae rfl (cd rfl rfl) ?_ | refine ae rfl (cb rfl rfl) ?_ | refine ae rfl (ca rfl rfl (by omega)) ?_
  refine ae rfl (v7 rfl rfl rfl) ?_
  refine am ?_
  dsimp only [St.put]
  refine hK7 _ ?_
  refine bl rfl (fun hc => ?_) (fun hc => ?_)
  ·replace hc := of_decide_eq_true hc
   have hpl := wn c.rs (k : Int) (n : Int) l w
   obtain ⟨P, hP⟩ : ∃ P, kb c.rs (k : Int) (n : Int) l w = P := ⟨_, rfl⟩
   rw [hP] at hpl ⊢
   have hpl2 : P.length ≤ 11 * 21 := Nat.le_trans hpl (Nat.mul_le_mul (by omega) (by omega))
   refine bn ?_
   refine hK6 _ ?_
   refine aj fun K8 hK8 => ?_
   refine bq ?_
   refine aj fun K9 hK9 => ?_
   refine aq ?_
   refine ae rfl (ax rfl (by constructor)) ?_
   refine am ?_
   dsimp only [St.put]
   refine hK9 _ ?_
   refine aj fun K10 hK10 => ?_
   refine aj fun K11 hK11 => ?_
   refine aq ?_
   refine ae rfl (ar rfl (by constructor)) ?_
   refine ae rfl (ar rfl (by constructor)) ?_
   first | refine ae rfl (bj rfl rfl (List.length_map _)) ?_ | refine ae rfl (bj rfl rfl rfl) ?_ | refine ae rfl (b8 rfl rfl) ?_ | refine ae rfl (cd rfl rfl) ?_ | refine ae rfl (cb rfl rfl) ?_ | refine ae rfl (ca rfl rfl (by omega)) ?_
   refine ae rfl (cj rfl rfl rfl) ?_
   refine am ?_
   dsimp only [St.put]
   refine hK11 _ ?_
   refine bl rfl (fun hc => ?_) (fun hc => ?_)
   ·replace hc := of_decide_eq_true hc
    obtain ⟨own, hxo⟩ : ∃ s, l[w]? = some s := cm (by omega)
    have hown := vt hxo
    refine aq ?_
    refine ae rfl (ar rfl (by constructor)) ?_
    refine ae rfl (ar rfl (by constructor)) ?_
    try dsimp only [St.put]
    first | refine ae rfl (bf rfl rfl rfl rfl (bm (by assumption)) (Enc.len _)) ?_ | refine ae rfl (bf rfl rfl rfl rfl (by assumption) rfl) ?_ | refine ae rfl (cr rfl rfl rfl (by first | exact ct _ | exact rfl) (by omega)) ?_ | refine ae rfl (bf rfl rfl rfl (by omega) (bm (by assumption)) (Enc.len _)) ?_
    try dsimp only [St.put]
    first | refine aa rfl (aw rfl rfl) ?_ | refine aa rfl (ah rfl rfl (Enc.len _)) ?_ | refine aa rfl (ah rfl rfl rfl) ?_ | refine aa rfl (a7 rfl rfl zG trivial (by first | rfl | assumption)) ?_ | refine aa rfl (az rfl rfl zG trivial (by rfl)) ?_ | refine aa rfl (a8 rfl rfl zG trivial (by simp)) ?_ | refine aa rfl (ai rfl rfl zG trivial (ay (by assumption) rfl)) ?_ | refine aa rfl (ai rfl rfl zG trivial (by assumption)) ?_ | refine aa rfl (a9 rfl rfl zG trivial rfl (by assumption) rfl (by decide)) ?_ | refine aa rfl (ba rfl rfl zG (by rfl)) ?_
    refine ae rfl (ax rfl (by constructor)) ?_
    refine am ?_
    dsimp only [St.put]
    refine hK10 _ ?_
    refine aj fun K12 hK12 => ?_
    refine aj fun K13 hK13 => ?_
    refine aq ?_
    refine ae rfl (ax rfl (by constructor)) ?_
    refine am ?_
    dsimp only [St.put]
    rw [show P = P ++ (cf c.rs ⟨k, n, w⟩ own 0).1 by rw [y9, List.append_nil]]
    refine hK13 _ ?_
    refine bq ?_
    refine cg 15 ?_
    refine zQ ?_
    refine cn ((bc G nx (.tip ((P ++ (cf c.rs ⟨k, n, w⟩ own 0).1)).length 9 1))) zX ?_
    dsimp only
    refine cz (X := Nat) (fun i => i ≤ c.rs.length) (fun i => c.rs.length - i) (fun i => [(9, .list ((P ++ (cf c.rs ⟨k, n, w⟩ own i).1).map cells) (.tip nx)), (12, .v (.string (cf c.rs ⟨k, n, w⟩ own i).2)), (13, .v (.int .i64 (i : Int))), (14, .any)]) (fun i G' => (bc G nx (.tip ((P ++ (cf c.rs ⟨k, n, w⟩ own i).1)).length 9 1))) 0 rfl ?_ ?_ ?_ ?_ ?_ ?_
    ·exact Nat.zero_le _
    ·exact zF
    ·exact zX
    ·rintro i hI
     exact zL
    ·rintro i hI
     exact zH
    ·rintro i hJ
     dsimp only at hJ ⊢
     refine aj fun K14 hK14 => ?_
     refine aj fun K15 hK15 => ?_
     refine aq ?_
     refine ae rfl (ar rfl (by constructor)) ?_
     first | refine ae rfl (bg rfl rfl rfl) ?_ | refine ae rfl (bi rfl rfl) ?_
     try dsimp only [St.put]
     first | refine aa rfl (aw rfl rfl) ?_ | refine aa rfl (ah rfl rfl (Enc.len _)) ?_ | refine aa rfl (ah rfl rfl rfl) ?_ | refine aa rfl (a7 rfl rfl zG trivial (by first | rfl | assumption)) ?_ | refine aa rfl (az rfl rfl zG trivial (by rfl)) ?_ | refine aa rfl (a8 rfl rfl zG trivial (by simp)) ?_ | refine aa rfl (ai rfl rfl zG trivial (ay (by assumption) rfl)) ?_ | refine aa rfl (ai rfl rfl zG trivial (by assumption)) ?_ | refine aa rfl (a9 rfl rfl zG trivial rfl (by assumption) rfl (by decide)) ?_ | refine aa rfl (ba rfl rfl zG (by rfl)) ?_
     first | refine ae rfl (bj rfl rfl (List.length_map _)) ?_ | refine ae rfl (bj rfl rfl rfl) ?_ | refine ae rfl (b8 rfl rfl) ?_ | refine ae rfl (cd rfl rfl) ?_ | refine ae rfl (cb rfl rfl) ?_ | refine ae rfl (ca rfl rfl (by omega)) ?_
     refine ae rfl (cj rfl rfl rfl) ?_
     refine am ?_
     dsimp only [St.put]
     refine hK15 _ ?_
     refine bl rfl (fun hc => ?_) (fun hc => ?_)
     ·replace hc := of_decide_eq_true hc
      obtain ⟨r, hr⟩ : ∃ r, c.rs[i]? = some r := cm (by omega)
      have hal := ox c.rs ⟨k, n, w⟩ own i
      refine bn ?_
      refine hK14 _ ?_
      refine aj fun K16 hK16 => ?_
      refine bq ?_
      refine aj fun K17 hK17 => ?_
      refine aq ?_
      first | refine ae rfl (bg rfl rfl rfl) ?_ | refine ae rfl (bi rfl rfl) ?_
      try dsimp only [St.put]
      first | refine aa rfl (aw rfl rfl) ?_ | refine aa rfl (ah rfl rfl (Enc.len _)) ?_ | refine aa rfl (ah rfl rfl rfl) ?_ | refine aa rfl (a7 rfl rfl zG trivial (by first | rfl | assumption)) ?_ | refine aa rfl (az rfl rfl zG trivial (by rfl)) ?_ | refine aa rfl (a8 rfl rfl zG trivial (by simp)) ?_ | refine aa rfl (ai rfl rfl zG trivial (ay (by assumption) rfl)) ?_ | refine aa rfl (ai rfl rfl zG trivial (by assumption)) ?_ | refine aa rfl (a9 rfl rfl zG trivial rfl (by assumption) rfl (by decide)) ?_ | refine aa rfl (ba rfl rfl zG (by rfl)) ?_
      refine ae rfl (ar rfl (by constructor)) ?_
      try dsimp only [St.put]
      first | refine ae rfl (bf rfl rfl rfl rfl (bm (by assumption)) (Enc.len _)) ?_ | refine ae rfl (bf rfl rfl rfl rfl (by assumption) rfl) ?_ | refine ae rfl (cr rfl rfl rfl (by first | exact ct _ | exact rfl) (by omega)) ?_ | refine ae rfl (bf rfl rfl rfl (by omega) (bm (by assumption)) (Enc.len _)) ?_
      try dsimp only [St.put]
      first | refine aa rfl (aw rfl rfl) ?_ | refine aa rfl (ah rfl rfl (Enc.len _)) ?_ | refine aa rfl (ah rfl rfl rfl) ?_ | refine aa rfl (a7 rfl rfl zG trivial (by first | rfl | assumption)) ?_ | refine aa rfl (az rfl rfl zG trivial (by rfl)) ?_ | refine aa rfl (a8 rfl rfl zG trivial (by simp)) ?_ | refine aa rfl (ai rfl rfl zG trivial (ay (by assumption) rfl)) ?_ | refine aa rfl (ai rfl rfl zG trivial (by assumption)) ?_ | refine aa rfl (a9 rfl rfl zG trivial rfl (by assumption) rfl (by decide)) ?_ | refine aa rfl (ba rfl rfl zG (by rfl)) ?_
      try dsimp only [St.put]
      refine av rfl (di rfl ?_)
      try dsimp only [St.put]
      first | refine av rfl (c8 rfl rfl rfl zG rfl rfl (by rfl) ?_) | refine av rfl (dh rfl rfl rfl zG (by constructor) rfl zO ?_)
      refine am ?_
      dsimp only [St.put]
      refine hK17 _ ?_
      refine ep (i := 14) rfl zG zC ?_
      dsimp only
      refine aj fun K18 hK18 => ?_
      refine cg 15 ?_
      refine zQ ?_
      refine ky (X := Bool) (fun b => (b = true → r.pl ≠ ⟨k, n, w⟩) ∧ (b = false → r.pl = ⟨k, n, w⟩)) (fun b => [(68, .v (.bool b))]) (fun b G' => G') rfl ?_ (fun _ _ _ _ h => .inl h) ?_ ?_
      ·rintro b hI
       exact zL
      ·refine aq ?_
       first | refine ae rfl (bg rfl rfl rfl) ?_ | refine ae rfl (bi rfl rfl) ?_
       first | refine ae rfl (bg rfl rfl rfl) ?_ | refine ae rfl (bi rfl rfl) ?_
       try dsimp only [St.put]
       first | refine aa rfl (aw rfl rfl) ?_ | refine aa rfl (ah rfl rfl (Enc.len _)) ?_ | refine aa rfl (ah rfl rfl rfl) ?_ | refine aa rfl (a7 rfl rfl zG trivial (by first | rfl | assumption)) ?_ | refine aa rfl (az rfl rfl zG trivial (by rfl)) ?_ | refine aa rfl (a8 rfl rfl zG trivial (by simp)) ?_ | refine aa rfl (ai rfl rfl zG trivial (ay (by assumption) rfl)) ?_ | refine aa rfl (ai rfl rfl zG trivial (by assumption)) ?_ | refine aa rfl (a9 rfl rfl zG trivial rfl (by assumption) rfl (by decide)) ?_ | refine aa rfl (ba rfl rfl zG (by rfl)) ?_
       refine ae rfl (ar rfl (by constructor)) ?_
       refine ae rfl (em rfl rfl rfl) ?_
       refine ae rfl (ar rfl (by constructor)) ?_
       refine et (fun hs => ?_) (fun hs => ?_)
       ·have s1 := gn hs
        refine bv rfl ?_
        refine bv rfl ?_
        refine bv rfl ?_
        refine bv rfl ?_
        refine bv rfl ?_
        first | refine ae rfl (bt rfl rfl (by constructor)) ?_ | refine ae rfl (bu rfl rfl (by constructor)) ?_ | refine ae rfl (b7 rfl rfl rfl rfl) ?_ | refine ae rfl (bz rfl rfl rfl rfl) ?_
        refine ae rfl (ar rfl (by constructor)) ?_
        refine bv rfl ?_
        refine bv rfl ?_
        refine bv rfl ?_
        refine bv rfl ?_
        refine bv rfl ?_
        first | refine ae rfl (bt rfl rfl (by constructor)) ?_ | refine ae rfl (bu rfl rfl (by constructor)) ?_ | refine ae rfl (b7 rfl rfl rfl rfl) ?_ | refine ae rfl (bz rfl rfl rfl rfl) ?_
        refine am ?_
        dsimp only [St.put]
        refine ⟨_, ?_, ⟨⟨rfl, rfl⟩, zF, zB, zN, zX⟩⟩
        obtain ⟨⟨r1, r2, r3⟩, r4, r5⟩ := r
        dsimp only at *
        simp only [PlaceD.mk.injEq, ne_eq]
        first
        | (refine ⟨fun _ => ?_, fun h => by (cases h)⟩; omega)
        | (by_cases e : r3 = (w : Int)
           ·simp [e, s1, s2]
           ·simp [e])
       ·have s1 := ff hs
        first | refine ae rfl (bg rfl rfl rfl) ?_ | refine ae rfl (bi rfl rfl) ?_
        first | refine ae rfl (bg rfl rfl rfl) ?_ | refine ae rfl (bi rfl rfl) ?_
        try dsimp only [St.put]
        first | refine aa rfl (aw rfl rfl) ?_ | refine aa rfl (ah rfl rfl (Enc.len _)) ?_ | refine aa rfl (ah rfl rfl rfl) ?_ | refine aa rfl (a7 rfl rfl zG trivial (by first | rfl | assumption)) ?_ | refine aa rfl (az rfl rfl zG trivial (by rfl)) ?_ | refine aa rfl (a8 rfl rfl zG trivial (by simp)) ?_ | refine aa rfl (ai rfl rfl zG trivial (ay (by assumption) rfl)) ?_ | refine aa rfl (ai rfl rfl zG trivial (by assumption)) ?_ | refine aa rfl (a9 rfl rfl zG trivial rfl (by assumption) rfl (by decide)) ?_ | refine aa rfl (ba rfl rfl zG (by rfl)) ?_
        refine ae rfl (ar rfl (by constructor)) ?_
        refine ae rfl (em rfl rfl rfl) ?_
        first | refine ae rfl (bt rfl rfl (by constructor)) ?_ | refine ae rfl (bu rfl rfl (by constructor)) ?_ | refine ae rfl (b7 rfl rfl rfl rfl) ?_ | refine ae rfl (bz rfl rfl rfl rfl) ?_
        refine ae rfl (ar rfl (by constructor)) ?_
        refine et (fun hs => ?_) (fun hs => ?_)
        ·have s2 := gn hs
         refine bv rfl ?_
         refine bv rfl ?_
         refine bv rfl ?_
         refine bv rfl ?_
         refine bv rfl ?_
         first | refine ae rfl (bt rfl rfl (by constructor)) ?_ | refine ae rfl (bu rfl rfl (by constructor)) ?_ | refine ae rfl (b7 rfl rfl rfl rfl) ?_ | refine ae rfl (bz rfl rfl rfl rfl) ?_
         refine am ?_
         dsimp only [St.put]
         refine ⟨_, ?_, ⟨⟨rfl, rfl⟩, zF, zB, zN, zX⟩⟩
         obtain ⟨⟨r1, r2, r3⟩, r4, r5⟩ := r
         dsimp only at *
         simp only [PlaceD.mk.injEq, ne_eq]
         first
         | (refine ⟨fun _ => ?_, fun h => by (cases h)⟩; omega)
         | (by_cases e : r3 = (w : Int)
            ·simp [e, s1, s2]
            ·simp [e])
        ·have s2 := ff hs
         first | refine ae rfl (bg rfl rfl rfl) ?_ | refine ae rfl (bi rfl rfl) ?_
         first | refine ae rfl (bg rfl rfl rfl) ?_ | refine ae rfl (bi rfl rfl) ?_
         try dsimp only [St.put]
         first | refine aa rfl (aw rfl rfl) ?_ | refine aa rfl (ah rfl rfl (Enc.len _)) ?_ | refine aa rfl (ah rfl rfl rfl) ?_ | refine aa rfl (a7 rfl rfl zG trivial (by first | rfl | assumption)) ?_ | refine aa rfl (az rfl rfl zG trivial (by rfl)) ?_ | refine aa rfl (a8 rfl rfl zG trivial (by simp)) ?_ | refine aa rfl (ai rfl rfl zG trivial (ay (by assumption) rfl)) ?_ | refine aa rfl (ai rfl rfl zG trivial (by assumption)) ?_ | refine aa rfl (a9 rfl rfl zG trivial rfl (by assumption) rfl (by decide)) ?_ | refine aa rfl (ba rfl rfl zG (by rfl)) ?_
         refine ae rfl (ar rfl (by constructor)) ?_
         refine ae rfl (em rfl rfl rfl) ?_
         first | refine ae rfl (bt rfl rfl (by constructor)) ?_ | refine ae rfl (bu rfl rfl (by constructor)) ?_ | refine ae rfl (b7 rfl rfl rfl rfl) ?_ | refine ae rfl (bz rfl rfl rfl rfl) ?_
         refine am ?_
         dsimp only [St.put]
         refine ⟨_, ?_, ⟨⟨rfl, rfl⟩, zF, zB, zN, zX⟩⟩
         obtain ⟨⟨r1, r2, r3⟩, r4, r5⟩ := r
         dsimp only at *
         simp only [PlaceD.mk.injEq, ne_eq]
         first
         | (refine ⟨fun _ => ?_, fun h => by (cases h)⟩; omega)
         | (by_cases e : r3 = (w : Int)
            ·simp [e, s1, s2]
            ·simp [e])
      ·rintro b hst
       dsimp only at hst ⊢
       refine bl rfl (fun hc => ?_) (fun hc => ?_)
       ·have hpe := hst.1 hc
        refine co ?_
        refine hK16 _ ?_
        refine aq ?_
        refine ae rfl (ar rfl (by constructor)) ?_
        first | refine ae rfl (bx rfl rfl rfl (by omega)) ?_ | refine ae rfl (cp rfl rfl rfl) ?_
        refine ae rfl (ax rfl (by constructor)) ?_
        refine am ?_
        dsimp only [St.put]
        first
        | (have e3 := nl (own := own) hr hpe
           rw [← e3]
           exact ⟨i + 1, by omega, by omega, ⟨⟨rfl, rfl⟩, zF, zB, zN, zX⟩⟩)
        | (have e3 := nk (own := own) hr hpe hk2
           have e4 : (cf c.rs ⟨k, n, w⟩ own i).2 = (cf c.rs ⟨k, n, w⟩ own (i + 1)).2 := by rw [e3]
           rw [List.append_assoc, show (cf c.rs ⟨k, n, w⟩ own i).1 ++ [r.word] = (cf c.rs ⟨k, n, w⟩ own (i + 1)).1 by rw [e3], e4]
           exact ⟨i + 1, by omega, by omega, ⟨⟨rfl, rfl⟩, zF, zB, zN, zX⟩⟩)
        | (have e3 := nj (own := own) hr hpe hk2
           have e4 : (cf c.rs ⟨k, n, w⟩ own i).1 = (cf c.rs ⟨k, n, w⟩ own (i + 1)).1 := by rw [e3]
           have e5 : r.word = (cf c.rs ⟨k, n, w⟩ own (i + 1)).2 := by rw [e3]
           rw [e4, e5]
           exact ⟨i + 1, by omega, by omega, ⟨⟨rfl, rfl⟩, zF, zB, zN, zX⟩⟩)
       ·have hpe := hst.2 hc
        refine bn ?_
        refine hK18 _ ?_
        refine aj fun K20 hK20 => ?_
        refine aq ?_
        first | refine ae rfl (bg rfl rfl rfl) ?_ | refine ae rfl (bi rfl rfl) ?_
        try dsimp only [St.put]
        first | refine aa rfl (aw rfl rfl) ?_ | refine aa rfl (ah rfl rfl (Enc.len _)) ?_ | refine aa rfl (ah rfl rfl rfl) ?_ | refine aa rfl (a7 rfl rfl zG trivial (by first | rfl | assumption)) ?_ | refine aa rfl (az rfl rfl zG trivial (by rfl)) ?_ | refine aa rfl (a8 rfl rfl zG trivial (by simp)) ?_ | refine aa rfl (ai rfl rfl zG trivial (ay (by assumption) rfl)) ?_ | refine aa rfl (ai rfl rfl zG trivial (by assumption)) ?_ | refine aa rfl (a9 rfl rfl zG trivial rfl (by assumption) rfl (by decide)) ?_ | refine aa rfl (ba rfl rfl zG (by rfl)) ?_
        refine ae rfl (dy rfl rfl rfl) ?_
        refine am ?_
        dsimp only [St.put]
        refine hK20 _ ?_
        refine bl rfl (fun hc => ?_) (fun hc => ?_)
        ·have hk2 : r.kind = 2 := of_decide_eq_true hc
         refine aq ?_
         refine ae rfl (ar rfl (by constructor)) ?_
         first | refine ae rfl (bg rfl rfl rfl) ?_ | refine ae rfl (bi rfl rfl) ?_
         try dsimp only [St.put]
         first | refine aa rfl (aw rfl rfl) ?_ | refine aa rfl (ah rfl rfl (Enc.len _)) ?_ | refine aa rfl (ah rfl rfl rfl) ?_ | refine aa rfl (a7 rfl rfl zG trivial (by first | rfl | assumption)) ?_ | refine aa rfl (az rfl rfl zG trivial (by rfl)) ?_ | refine aa rfl (a8 rfl rfl zG trivial (by simp)) ?_ | refine aa rfl (ai rfl rfl zG trivial (ay (by assumption) rfl)) ?_ | refine aa rfl (ai rfl rfl zG trivial (by assumption)) ?_ | refine aa rfl (a9 rfl rfl zG trivial rfl (by assumption) rfl (by decide)) ?_ | refine aa rfl (ba rfl rfl zG (by rfl)) ?_
         try dsimp only [St.put]
         refine av rfl (dx rfl rfl rfl (by decide) (by decide) zR (by decide) ?_)
         try dsimp only [St.put]
         refine av rfl (gr ([r.word]) rfl rfl zG zE rfl rfl zA ?_ zA)
         refine ae rfl (ax rfl (by constructor)) ?_
         refine am ?_
         dsimp only [St.put]
         refine hK16 _ ?_
         refine aq ?_
         refine ae rfl (ar rfl (by constructor)) ?_
         first | refine ae rfl (bx rfl rfl rfl (by omega)) ?_ | refine ae rfl (cp rfl rfl rfl) ?_
         refine ae rfl (ax rfl (by constructor)) ?_
         refine am ?_
         dsimp only [St.put]
         first
         | (have e3 := nl (own := own) hr hpe
            rw [← e3]
            exact ⟨i + 1, by omega, by omega, ⟨⟨rfl, rfl⟩, zF, zB, zN, zX⟩⟩)
         | (have e3 := nk (own := own) hr hpe hk2
            have e4 : (cf c.rs ⟨k, n, w⟩ own i).2 = (cf c.rs ⟨k, n, w⟩ own (i + 1)).2 := by rw [e3]
            rw [List.append_assoc, show (cf c.rs ⟨k, n, w⟩ own i).1 ++ [r.word] = (cf c.rs ⟨k, n, w⟩ own (i + 1)).1 by rw [e3], e4]
            exact ⟨i + 1, by omega, by omega, ⟨⟨rfl, rfl⟩, zF, zB, zN, zX⟩⟩)
         | (have e3 := nj (own := own) hr hpe hk2
            have e4 : (cf c.rs ⟨k, n, w⟩ own i).1 = (cf c.rs ⟨k, n, w⟩ own (i + 1)).1 := by rw [e3]
            have e5 : r.word = (cf c.rs ⟨k, n, w⟩ own (i + 1)).2 := by rw [e3]
            rw [e4, e5]
            exact ⟨i + 1, by omega, by omega, ⟨⟨rfl, rfl⟩, zF, zB, zN, zX⟩⟩)
        ·have hk2 : ¬ r.kind = 2 := of_decide_eq_false hc
         refine aq ?_
         first | refine ae rfl (bg rfl rfl rfl) ?_ | refine ae rfl (bi rfl rfl) ?_
         try dsimp only [St.put]
         first | refine aa rfl (aw rfl rfl) ?_ | refine aa rfl (ah rfl rfl (Enc.len _)) ?_ | refine aa rfl (ah rfl rfl rfl) ?_ | refine aa rfl (a7 rfl rfl zG trivial (by first | rfl | assumption)) ?_ | refine aa rfl (az rfl rfl zG trivial (by rfl)) ?_ | refine aa rfl (a8 rfl rfl zG trivial (by simp)) ?_ | refine aa rfl (ai rfl rfl zG trivial (ay (by assumption) rfl)) ?_ | refine aa rfl (ai rfl rfl zG trivial (by assumption)) ?_ | refine aa rfl (a9 rfl rfl zG trivial rfl (by assumption) rfl (by decide)) ?_ | refine aa rfl (ba rfl rfl zG (by rfl)) ?_
         refine ae rfl (ax rfl (by constructor)) ?_
         refine am ?_
         dsimp only [St.put]
         refine hK16 _ ?_
         refine aq ?_
         refine ae rfl (ar rfl (by constructor)) ?_
         first | refine ae rfl (bx rfl rfl rfl (by omega)) ?_ | refine ae rfl (cp rfl rfl rfl) ?_
         refine ae rfl (ax rfl (by constructor)) ?_
         refine am ?_
         dsimp only [St.put]
         first
         | (have e3 := nl (own := own) hr hpe
            rw [← e3]
            exact ⟨i + 1, by omega, by omega, ⟨⟨rfl, rfl⟩, zF, zB, zN, zX⟩⟩)
         | (have e3 := nk (own := own) hr hpe hk2
            have e4 : (cf c.rs ⟨k, n, w⟩ own i).2 = (cf c.rs ⟨k, n, w⟩ own (i + 1)).2 := by rw [e3]
            rw [List.append_assoc, show (cf c.rs ⟨k, n, w⟩ own i).1 ++ [r.word] = (cf c.rs ⟨k, n, w⟩ own (i + 1)).1 by rw [e3], e4]
            exact ⟨i + 1, by omega, by omega, ⟨⟨rfl, rfl⟩, zF, zB, zN, zX⟩⟩)
         | (have e3 := nj (own := own) hr hpe hk2
            have e4 : (cf c.rs ⟨k, n, w⟩ own i).1 = (cf c.rs ⟨k, n, w⟩ own (i + 1)).1 := by rw [e3]
            have e5 : r.word = (cf c.rs ⟨k, n, w⟩ own (i + 1)).2 := by rw [e3]
            rw [e4, e5]
            exact ⟨i + 1, by omega, by omega, ⟨⟨rfl, rfl⟩, zF, zB, zN, zX⟩⟩)
     ·replace hc := of_decide_eq_false hc
      obtain rfl : i = c.rs.length := by omega
      have hal := ox c.rs ⟨k, n, w⟩ own c.rs.length
      obtain ⟨A, hA⟩ : ∃ A, cf c.rs ⟨k, n, w⟩ own c.rs.length = A := ⟨_, rfl⟩
      rw [hA] at hal ⊢
      refine co ?_
      refine hK12 _ ?_
      refine aj fun K21 hK21 => ?_
      refine aq ?_
      refine ae rfl (ar rfl (by constructor)) ?_
      refine ae rfl (me rfl rfl rfl) ?_
      refine am ?_
      dsimp only [St.put]
      refine hK21 _ ?_
      refine bl rfl (fun hc => ?_) (fun hc => ?_)
      ·have hne : A.2 ≠ ByteArray.empty := gn hc
       refine aq ?_
       refine ae rfl (ar rfl (by constructor)) ?_
       refine ae rfl (ar rfl (by constructor)) ?_
       try dsimp only [St.put]
       refine av rfl (dx rfl rfl rfl (by decide) (by decide) zR (by decide) ?_)
       try dsimp only [St.put]
       refine av rfl (gr ([A.2]) rfl rfl zG zE rfl rfl zA ?_ zA)
       refine ae rfl (ax rfl (by constructor)) ?_
       refine am ?_
       dsimp only [St.put]
       refine hK8 _ ?_
       refine aq ?_
       refine ae rfl (ar rfl (by constructor)) ?_
       first | refine ae rfl (bx rfl rfl rfl (by omega)) ?_ | refine ae rfl (cp rfl rfl rfl) ?_
       refine ae rfl (ax rfl (by constructor)) ?_
       refine am ?_
       dsimp only [St.put]
       have e2 := m3 c.rs (k : Int) (n : Int) l w
       rw [ov, hown, hA, hP] at e2
       first
       | (rw [show fu A = A.1 ++ [A.2] by simp [fu, hne], ← List.append_assoc] at e2
          rw [← e2]
          exact ⟨w + 1, by omega, by omega, ⟨⟨rfl, rfl⟩, zF, zB, zN, zX⟩⟩)
       | (rw [show fu A = A.1 by simp [fu, hne]] at e2
          rw [← e2]
          exact ⟨w + 1, by omega, by omega, ⟨⟨rfl, rfl⟩, zF, zB, zN, zX⟩⟩)
      ·have hne : A.2 = ByteArray.empty := ff hc
       refine bn ?_
       refine hK8 _ ?_
       refine aq ?_
       refine ae rfl (ar rfl (by constructor)) ?_
       first | refine ae rfl (bx rfl rfl rfl (by omega)) ?_ | refine ae rfl (cp rfl rfl rfl) ?_
       refine ae rfl (ax rfl (by constructor)) ?_
       refine am ?_
       dsimp only [St.put]
       have e2 := m3 c.rs (k : Int) (n : Int) l w
       rw [ov, hown, hA, hP] at e2
       first
       | (rw [show fu A = A.1 ++ [A.2] by simp [fu, hne], ← List.append_assoc] at e2
          rw [← e2]
          exact ⟨w + 1, by omega, by omega, ⟨⟨rfl, rfl⟩, zF, zB, zN, zX⟩⟩)
       | (rw [show fu A = A.1 by simp [fu, hne]] at e2
          rw [← e2]
          exact ⟨w + 1, by omega, by omega, ⟨⟨rfl, rfl⟩, zF, zB, zN, zX⟩⟩)
   ·replace hc := of_decide_eq_false hc
    have hown := ubh (l := l) (w := w) (by omega)
    obtain ⟨own, hoe⟩ : ∃ own, (⟨#[]⟩ : ByteArray) = own := ⟨_, rfl⟩
    rw [hoe] at hown ⊢
    refine bn ?_
    refine hK10 _ ?_
    refine aj fun K22 hK22 => ?_
    refine aj fun K23 hK23 => ?_
    refine aq ?_
    refine ae rfl (ax rfl (by constructor)) ?_
    refine am ?_
    dsimp only [St.put]
    rw [show P = P ++ (cf c.rs ⟨k, n, w⟩ own 0).1 by rw [y9, List.append_nil]]
    refine hK23 _ ?_
    refine bq ?_
    refine cg 15 ?_
    refine zQ ?_
    refine cn ((bc G nx (.tip ((P ++ (cf c.rs ⟨k, n, w⟩ own 0).1)).length 9 1))) zX ?_
    dsimp only
    refine cz (X := Nat) (fun i => i ≤ c.rs.length) (fun i => c.rs.length - i) (fun i => [(9, .list ((P ++ (cf c.rs ⟨k, n, w⟩ own i).1).map cells) (.tip nx)), (12, .v (.string (cf c.rs ⟨k, n, w⟩ own i).2)), (13, .v (.int .i64 (i : Int))), (14, .any)]) (fun i G' => (bc G nx (.tip ((P ++ (cf c.rs ⟨k, n, w⟩ own i).1)).length 9 1))) 0 rfl ?_ ?_ ?_ ?_ ?_ ?_
    ·exact Nat.zero_le _
    ·exact zF
    ·exact zX
    ·rintro i hI
     exact zL
    ·rintro i hI
     exact zH
    ·rintro i hJ
     dsimp only at hJ ⊢
     refine aj fun K24 hK24 => ?_
     refine aj fun K25 hK25 => ?_
     refine aq ?_
     refine ae rfl (ar rfl (by constructor)) ?_
     first | refine ae rfl (bg rfl rfl rfl) ?_ | refine ae rfl (bi rfl rfl) ?_
     try dsimp only [St.put]
     first | refine aa rfl (aw rfl rfl) ?_ | refine aa rfl (ah rfl rfl (Enc.len _)) ?_ | refine aa rfl (ah rfl rfl rfl) ?_ | refine aa rfl (a7 rfl rfl zG trivial (by first | rfl | assumption)) ?_ | refine aa rfl (az rfl rfl zG trivial (by rfl)) ?_ | refine aa rfl (a8 rfl rfl zG trivial (by simp)) ?_ | refine aa rfl (ai rfl rfl zG trivial (ay (by assumption) rfl)) ?_ | refine aa rfl (ai rfl rfl zG trivial (by assumption)) ?_ | refine aa rfl (a9 rfl rfl zG trivial rfl (by assumption) rfl (by decide)) ?_ | refine aa rfl (ba rfl rfl zG (by rfl)) ?_
     first | refine ae rfl (bj rfl rfl (List.length_map _)) ?_ | refine ae rfl (bj rfl rfl rfl) ?_ | refine ae rfl (b8 rfl rfl) ?_ | refine ae rfl (cd rfl rfl) ?_ | refine ae rfl (cb rfl rfl) ?_ | refine ae rfl (ca rfl rfl (by omega)) ?_
     refine ae rfl (cj rfl rfl rfl) ?_
     refine am ?_
     dsimp only [St.put]
     refine hK25 _ ?_
     refine bl rfl (fun hc => ?_) (fun hc => ?_)
     ·replace hc := of_decide_eq_true hc
      obtain ⟨r, hr⟩ : ∃ r, c.rs[i]? = some r := cm (by omega)
      have hal := ox c.rs ⟨k, n, w⟩ own i
      refine bn ?_
      refine hK24 _ ?_
      refine aj fun K26 hK26 => ?_
      refine bq ?_
      refine aj fun K27 hK27 => ?_
      refine aq ?_
      first | refine ae rfl (bg rfl rfl rfl) ?_ | refine ae rfl (bi rfl rfl) ?_
      try dsimp only [St.put]
      first | refine aa rfl (aw rfl rfl) ?_ | refine aa rfl (ah rfl rfl (Enc.len _)) ?_ | refine aa rfl (ah rfl rfl rfl) ?_ | refine aa rfl (a7 rfl rfl zG trivial (by first | rfl | assumption)) ?_ | refine aa rfl (az rfl rfl zG trivial (by rfl)) ?_ | refine aa rfl (a8 rfl rfl zG trivial (by simp)) ?_ | refine aa rfl (ai rfl rfl zG trivial (ay (by assumption) rfl)) ?_ | refine aa rfl (ai rfl rfl zG trivial (by assumption)) ?_ | refine aa rfl (a9 rfl rfl zG trivial rfl (by assumption) rfl (by decide)) ?_ | refine aa rfl (ba rfl rfl zG (by rfl)) ?_
      refine ae rfl (ar rfl (by constructor)) ?_
      try dsimp only [St.put]
      first | refine ae rfl (bf rfl rfl rfl rfl (bm (by assumption)) (Enc.len _)) ?_ | refine ae rfl (bf rfl rfl rfl rfl (by assumption) rfl) ?_ | refine ae rfl (cr rfl rfl rfl (by first | exact ct _ | exact rfl) (by omega)) ?_ | refine ae rfl (bf rfl rfl rfl (by omega) (bm (by assumption)) (Enc.len _)) ?_
      try dsimp only [St.put]
      first | refine aa rfl (aw rfl rfl) ?_ | refine aa rfl (ah rfl rfl (Enc.len _)) ?_ | refine aa rfl (ah rfl rfl rfl) ?_ | refine aa rfl (a7 rfl rfl zG trivial (by first | rfl | assumption)) ?_ | refine aa rfl (az rfl rfl zG trivial (by rfl)) ?_ | refine aa rfl (a8 rfl rfl zG trivial (by simp)) ?_ | refine aa rfl (ai rfl rfl zG trivial (ay (by assumption) rfl)) ?_ | refine aa rfl (ai rfl rfl zG trivial (by assumption)) ?_ | refine aa rfl (a9 rfl rfl zG trivial rfl (by assumption) rfl (by decide)) ?_ | refine aa rfl (ba rfl rfl zG (by rfl)) ?_
      try dsimp only [St.put]
      refine av rfl (di rfl ?_)
      try dsimp only [St.put]
      first | refine av rfl (c8 rfl rfl rfl zG rfl rfl (by rfl) ?_) | refine av rfl (dh rfl rfl rfl zG (by constructor) rfl zO ?_)
      refine am ?_
      dsimp only [St.put]
      refine hK27 _ ?_
      refine ep (i := 14) rfl zG zC ?_
      dsimp only
      refine aj fun K28 hK28 => ?_
      refine cg 15 ?_
      refine zQ ?_
      refine ky (X := Bool) (fun b => (b = true → r.pl ≠ ⟨k, n, w⟩) ∧ (b = false → r.pl = ⟨k, n, w⟩)) (fun b => [(68, .v (.bool b))]) (fun b G' => G') rfl ?_ (fun _ _ _ _ h => .inl h) ?_ ?_
      ·rintro b hI
       exact zL
      ·refine aq ?_
       first | refine ae rfl (bg rfl rfl rfl) ?_ | refine ae rfl (bi rfl rfl) ?_
       first | refine ae rfl (bg rfl rfl rfl) ?_ | refine ae rfl (bi rfl rfl) ?_
       try dsimp only [St.put]
       first | refine aa rfl (aw rfl rfl) ?_ | refine aa rfl (ah rfl rfl (Enc.len _)) ?_ | refine aa rfl (ah rfl rfl rfl) ?_ | refine aa rfl (a7 rfl rfl zG trivial (by first | rfl | assumption)) ?_ | refine aa rfl (az rfl rfl zG trivial (by rfl)) ?_ | refine aa rfl (a8 rfl rfl zG trivial (by simp)) ?_ | refine aa rfl (ai rfl rfl zG trivial (ay (by assumption) rfl)) ?_ | refine aa rfl (ai rfl rfl zG trivial (by assumption)) ?_ | refine aa rfl (a9 rfl rfl zG trivial rfl (by assumption) rfl (by decide)) ?_ | refine aa rfl (ba rfl rfl zG (by rfl)) ?_
       refine ae rfl (ar rfl (by constructor)) ?_
       refine ae rfl (em rfl rfl rfl) ?_
       refine ae rfl (ar rfl (by constructor)) ?_
       refine et (fun hs => ?_) (fun hs => ?_)
       ·have s1 := gn hs
        refine bv rfl ?_
        refine bv rfl ?_
        refine bv rfl ?_
        refine bv rfl ?_
        refine bv rfl ?_
        first | refine ae rfl (bt rfl rfl (by constructor)) ?_ | refine ae rfl (bu rfl rfl (by constructor)) ?_ | refine ae rfl (b7 rfl rfl rfl rfl) ?_ | refine ae rfl (bz rfl rfl rfl rfl) ?_
        refine ae rfl (ar rfl (by constructor)) ?_
        refine bv rfl ?_
        refine bv rfl ?_
        refine bv rfl ?_
        refine bv rfl ?_
        refine bv rfl ?_
        first | refine ae rfl (bt rfl rfl (by constructor)) ?_ | refine ae rfl (bu rfl rfl (by constructor)) ?_ | refine ae rfl (b7 rfl rfl rfl rfl) ?_ | refine ae rfl (bz rfl rfl rfl rfl) ?_
        refine am ?_
        dsimp only [St.put]
        refine ⟨_, ?_, ⟨⟨rfl, rfl⟩, zF, zB, zN, zX⟩⟩
        obtain ⟨⟨r1, r2, r3⟩, r4, r5⟩ := r
        dsimp only at *
        simp only [PlaceD.mk.injEq, ne_eq]
        first
        | (refine ⟨fun _ => ?_, fun h => by (cases h)⟩; omega)
        | (by_cases e : r3 = (w : Int)
           ·simp [e, s1, s2]
           ·simp [e])
       ·have s1 := ff hs
        first | refine ae rfl (bg rfl rfl rfl) ?_ | refine ae rfl (bi rfl rfl) ?_
        first | refine ae rfl (bg rfl rfl rfl) ?_ | refine ae rfl (bi rfl rfl) ?_
        try dsimp only [St.put]
        first | refine aa rfl (aw rfl rfl) ?_ | refine aa rfl (ah rfl rfl (Enc.len _)) ?_ | refine aa rfl (ah rfl rfl rfl) ?_ | refine aa rfl (a7 rfl rfl zG trivial (by first | rfl | assumption)) ?_ | refine aa rfl (az rfl rfl zG trivial (by rfl)) ?_ | refine aa rfl (a8 rfl rfl zG trivial (by simp)) ?_ | refine aa rfl (ai rfl rfl zG trivial (ay (by assumption) rfl)) ?_ | refine aa rfl (ai rfl rfl zG trivial (by assumption)) ?_ | refine aa rfl (a9 rfl rfl zG trivial rfl (by assumption) rfl (by decide)) ?_ | refine aa rfl (ba rfl rfl zG (by rfl)) ?_
        refine ae rfl (ar rfl (by constructor)) ?_
        refine ae rfl (em rfl rfl rfl) ?_
        first | refine ae rfl (bt rfl rfl (by constructor)) ?_ | refine ae rfl (bu rfl rfl (by constructor)) ?_ | refine ae rfl (b7 rfl rfl rfl rfl) ?_ | refine ae rfl (bz rfl rfl rfl rfl) ?_
        refine ae rfl (ar rfl (by constructor)) ?_
        refine et (fun hs => ?_) (fun hs => ?_)
        ·have s2 := gn hs
         refine bv rfl ?_
         refine bv rfl ?_
         refine bv rfl ?_
         refine bv rfl ?_
         refine bv rfl ?_
         first | refine ae rfl (bt rfl rfl (by constructor)) ?_ | refine ae rfl (bu rfl rfl (by constructor)) ?_ | refine ae rfl (b7 rfl rfl rfl rfl) ?_ | refine ae rfl (bz rfl rfl rfl rfl) ?_
         refine am ?_
         dsimp only [St.put]
         refine ⟨_, ?_, ⟨⟨rfl, rfl⟩, zF, zB, zN, zX⟩⟩
         obtain ⟨⟨r1, r2, r3⟩, r4, r5⟩ := r
         dsimp only at *
         simp only [PlaceD.mk.injEq, ne_eq]
         first
         | (refine ⟨fun _ => ?_, fun h => by (cases h)⟩; omega)
         | (by_cases e : r3 = (w : Int)
            ·simp [e, s1, s2]
            ·simp [e])
        ·have s2 := ff hs
         first | refine ae rfl (bg rfl rfl rfl) ?_ | refine ae rfl (bi rfl rfl) ?_
         first | refine ae rfl (bg rfl rfl rfl) ?_ | refine ae rfl (bi rfl rfl) ?_
         try dsimp only [St.put]
         first | refine aa rfl (aw rfl rfl) ?_ | refine aa rfl (ah rfl rfl (Enc.len _)) ?_ | refine aa rfl (ah rfl rfl rfl) ?_ | refine aa rfl (a7 rfl rfl zG trivial (by first | rfl | assumption)) ?_ | refine aa rfl (az rfl rfl zG trivial (by rfl)) ?_ | refine aa rfl (a8 rfl rfl zG trivial (by simp)) ?_ | refine aa rfl (ai rfl rfl zG trivial (ay (by assumption) rfl)) ?_ | refine aa rfl (ai rfl rfl zG trivial (by assumption)) ?_ | refine aa rfl (a9 rfl rfl zG trivial rfl (by assumption) rfl (by decide)) ?_ | refine aa rfl (ba rfl rfl zG (by rfl)) ?_
         refine ae rfl (ar rfl (by constructor)) ?_
         refine ae rfl (em rfl rfl rfl) ?_
         first | refine ae rfl (bt rfl rfl (by constructor)) ?_ | refine ae rfl (bu rfl rfl (by constructor)) ?_ | refine ae rfl (b7 rfl rfl rfl rfl) ?_ | refine ae rfl (bz rfl rfl rfl rfl) ?_
         refine am ?_
         dsimp only [St.put]
         refine ⟨_, ?_, ⟨⟨rfl, rfl⟩, zF, zB, zN, zX⟩⟩
         obtain ⟨⟨r1, r2, r3⟩, r4, r5⟩ := r
         dsimp only at *
         simp only [PlaceD.mk.injEq, ne_eq]
         first
         | (refine ⟨fun _ => ?_, fun h => by (cases h)⟩; omega)
         | (by_cases e : r3 = (w : Int)
            ·simp [e, s1, s2]
            ·simp [e])
      ·rintro b hst
       dsimp only at hst ⊢
       refine bl rfl (fun hc => ?_) (fun hc => ?_)
       ·have hpe := hst.1 hc
        refine co ?_
        refine hK26 _ ?_
        refine aq ?_
        refine ae rfl (ar rfl (by constructor)) ?_
        first | refine ae rfl (bx rfl rfl rfl (by omega)) ?_ | refine ae rfl (cp rfl rfl rfl) ?_
        refine ae rfl (ax rfl (by constructor)) ?_
        refine am ?_
        dsimp only [St.put]
        first
        | (have e3 := nl (own := own) hr hpe
           rw [← e3]
           exact ⟨i + 1, by omega, by omega, ⟨⟨rfl, rfl⟩, zF, zB, zN, zX⟩⟩)
        | (have e3 := nk (own := own) hr hpe hk2
           have e4 : (cf c.rs ⟨k, n, w⟩ own i).2 = (cf c.rs ⟨k, n, w⟩ own (i + 1)).2 := by rw [e3]
           rw [List.append_assoc, show (cf c.rs ⟨k, n, w⟩ own i).1 ++ [r.word] = (cf c.rs ⟨k, n, w⟩ own (i + 1)).1 by rw [e3], e4]
           exact ⟨i + 1, by omega, by omega, ⟨⟨rfl, rfl⟩, zF, zB, zN, zX⟩⟩)
        | (have e3 := nj (own := own) hr hpe hk2
           have e4 : (cf c.rs ⟨k, n, w⟩ own i).1 = (cf c.rs ⟨k, n, w⟩ own (i + 1)).1 := by rw [e3]
           have e5 : r.word = (cf c.rs ⟨k, n, w⟩ own (i + 1)).2 := by rw [e3]
           rw [e4, e5]
           exact ⟨i + 1, by omega, by omega, ⟨⟨rfl, rfl⟩, zF, zB, zN, zX⟩⟩)
       ·have hpe := hst.2 hc
        refine bn ?_
        refine hK28 _ ?_
        refine aj fun K30 hK30 => ?_
        refine aq ?_
        first | refine ae rfl (bg rfl rfl rfl) ?_ | refine ae rfl (bi rfl rfl) ?_
        try dsimp only [St.put]
        first | refine aa rfl (aw rfl rfl) ?_ | refine aa rfl (ah rfl rfl (Enc.len _)) ?_ | refine aa rfl (ah rfl rfl rfl) ?_ | refine aa rfl (a7 rfl rfl zG trivial (by first | rfl | assumption)) ?_ | refine aa rfl (az rfl rfl zG trivial (by rfl)) ?_ | refine aa rfl (a8 rfl rfl zG trivial (by simp)) ?_ | refine aa rfl (ai rfl rfl zG trivial (ay (by assumption) rfl)) ?_ | refine aa rfl (ai rfl rfl zG trivial (by assumption)) ?_ | refine aa rfl (a9 rfl rfl zG trivial rfl (by assumption) rfl (by decide)) ?_ | refine aa rfl (ba rfl rfl zG (by rfl)) ?_
        refine ae rfl (dy rfl rfl rfl) ?_
        refine am ?_
        dsimp only [St.put]
        refine hK30 _ ?_
        refine bl rfl (fun hc => ?_) (fun hc => ?_)
        ·have hk2 : r.kind = 2 := of_decide_eq_true hc
         refine aq ?_
         refine ae rfl (ar rfl (by constructor)) ?_
         first | refine ae rfl (bg rfl rfl rfl) ?_ | refine ae rfl (bi rfl rfl) ?_
         try dsimp only [St.put]
         first | refine aa rfl (aw rfl rfl) ?_ | refine aa rfl (ah rfl rfl (Enc.len _)) ?_ | refine aa rfl (ah rfl rfl rfl) ?_ | refine aa rfl (a7 rfl rfl zG trivial (by first | rfl | assumption)) ?_ | refine aa rfl (az rfl rfl zG trivial (by rfl)) ?_ | refine aa rfl (a8 rfl rfl zG trivial (by simp)) ?_ | refine aa rfl (ai rfl rfl zG trivial (ay (by assumption) rfl)) ?_ | refine aa rfl (ai rfl rfl zG trivial (by assumption)) ?_ | refine aa rfl (a9 rfl rfl zG trivial rfl (by assumption) rfl (by decide)) ?_ | refine aa rfl (ba rfl rfl zG (by rfl)) ?_
         try dsimp only [St.put]
         refine av rfl (dx rfl rfl rfl (by decide) (by decide) zR (by decide) ?_)
         try dsimp only [St.put]
         refine av rfl (gr ([r.word]) rfl rfl zG zE rfl rfl zA ?_ zA)
         refine ae rfl (ax rfl (by constructor)) ?_
         refine am ?_
         dsimp only [St.put]
         refine hK26 _ ?_
         refine aq ?_
         refine ae rfl (ar rfl (by constructor)) ?_
         first | refine ae rfl (bx rfl rfl rfl (by omega)) ?_ | refine ae rfl (cp rfl rfl rfl) ?_
         refine ae rfl (ax rfl (by constructor)) ?_
         refine am ?_
         dsimp only [St.put]
         first
         | (have e3 := nl (own := own) hr hpe
            rw [← e3]
            exact ⟨i + 1, by omega, by omega, ⟨⟨rfl, rfl⟩, zF, zB, zN, zX⟩⟩)
         | (have e3 := nk (own := own) hr hpe hk2
            have e4 : (cf c.rs ⟨k, n, w⟩ own i).2 = (cf c.rs ⟨k, n, w⟩ own (i + 1)).2 := by rw [e3]
            rw [List.append_assoc, show (cf c.rs ⟨k, n, w⟩ own i).1 ++ [r.word] = (cf c.rs ⟨k, n, w⟩ own (i + 1)).1 by rw [e3], e4]
            exact ⟨i + 1, by omega, by omega, ⟨⟨rfl, rfl⟩, zF, zB, zN, zX⟩⟩)
         | (have e3 := nj (own := own) hr hpe hk2
            have e4 : (cf c.rs ⟨k, n, w⟩ own i).1 = (cf c.rs ⟨k, n, w⟩ own (i + 1)).1 := by rw [e3]
            have e5 : r.word = (cf c.rs ⟨k, n, w⟩ own (i + 1)).2 := by rw [e3]
            rw [e4, e5]
            exact ⟨i + 1, by omega, by omega, ⟨⟨rfl, rfl⟩, zF, zB, zN, zX⟩⟩)
        ·have hk2 : ¬ r.kind = 2 := of_decide_eq_false hc
         refine aq ?_
         first | refine ae rfl (bg rfl rfl rfl) ?_ | refine ae rfl (bi rfl rfl) ?_
         try dsimp only [St.put]
         first | refine aa rfl (aw rfl rfl) ?_ | refine aa rfl (ah rfl rfl (Enc.len _)) ?_ | refine aa rfl (ah rfl rfl rfl) ?_ | refine aa rfl (a7 rfl rfl zG trivial (by first | rfl | assumption)) ?_ | refine aa rfl (az rfl rfl zG trivial (by rfl)) ?_ | refine aa rfl (a8 rfl rfl zG trivial (by simp)) ?_ | refine aa rfl (ai rfl rfl zG trivial (ay (by assumption) rfl)) ?_ | refine aa rfl (ai rfl rfl zG trivial (by assumption)) ?_ | refine aa rfl (a9 rfl rfl zG trivial rfl (by assumption) rfl (by decide)) ?_ | refine aa rfl (ba rfl rfl zG (by rfl)) ?_
         refine ae rfl (ax rfl (by constructor)) ?_
         refine am ?_
         dsimp only [St.put]
         refine hK26 _ ?_
         refine aq ?_
         refine ae rfl (ar rfl (by constructor)) ?_
         first | refine ae rfl (bx rfl rfl rfl (by omega)) ?_ | refine ae rfl (cp rfl rfl rfl) ?_
         refine ae rfl (ax rfl (by constructor)) ?_
         refine am ?_
         dsimp only [St.put]
         first
         | (have e3 := nl (own := own) hr hpe
            rw [← e3]
            exact ⟨i + 1, by omega, by omega, ⟨⟨rfl, rfl⟩, zF, zB, zN, zX⟩⟩)
         | (have e3 := nk (own := own) hr hpe hk2
            have e4 : (cf c.rs ⟨k, n, w⟩ own i).2 = (cf c.rs ⟨k, n, w⟩ own (i + 1)).2 := by rw [e3]
            rw [List.append_assoc, show (cf c.rs ⟨k, n, w⟩ own i).1 ++ [r.word] = (cf c.rs ⟨k, n, w⟩ own (i + 1)).1 by rw [e3], e4]
            exact ⟨i + 1, by omega, by omega, ⟨⟨rfl, rfl⟩, zF, zB, zN, zX⟩⟩)
         | (have e3 := nj (own := own) hr hpe hk2
            have e4 : (cf c.rs ⟨k, n, w⟩ own i).1 = (cf c.rs ⟨k, n, w⟩ own (i + 1)).1 := by rw [e3]
            have e5 : r.word = (cf c.rs ⟨k, n, w⟩ own (i + 1)).2 := by rw [e3]
            rw [e4, e5]
            exact ⟨i + 1, by omega, by omega, ⟨⟨rfl, rfl⟩, zF, zB, zN, zX⟩⟩)
     ·replace hc := of_decide_eq_false hc
      obtain rfl : i = c.rs.length := by omega
      have hal := ox c.rs ⟨k, n, w⟩ own c.rs.length
      obtain ⟨A, hA⟩ : ∃ A, cf c.rs ⟨k, n, w⟩ own c.rs.length = A := ⟨_, rfl⟩
      rw [hA] at hal ⊢
      refine co ?_
      refine hK22 _ ?_
      refine aj fun K31 hK31 => ?_
      refine aq ?_
      refine ae rfl (ar rfl (by constructor)) ?_
      refine ae rfl (me rfl rfl rfl) ?_
      refine am ?_
      dsimp only [St.put]
      refine hK31 _ ?_
      refine bl rfl (fun hc => ?_) (fun hc => ?_)
      ·have hne : A.2 ≠ ByteArray.empty := gn hc
       refine aq ?_
       refine ae rfl (ar rfl (by constructor)) ?_
       refine ae rfl (ar rfl (by constructor)) ?_
       try dsimp only [St.put]
       refine av rfl (dx rfl rfl rfl (by decide) (by decide) zR (by decide) ?_)
       try dsimp only [St.put]
       refine av rfl (gr ([A.2]) rfl rfl zG zE rfl rfl zA ?_ zA)
       refine ae rfl (ax rfl (by constructor)) ?_
       refine am ?_
       dsimp only [St.put]
       refine hK8 _ ?_
       refine aq ?_
       refine ae rfl (ar rfl (by constructor)) ?_
       first | refine ae rfl (bx rfl rfl rfl (by omega)) ?_ | refine ae rfl (cp rfl rfl rfl) ?_
       refine ae rfl (ax rfl (by constructor)) ?_
       refine am ?_
       dsimp only [St.put]
       have e2 := m3 c.rs (k : Int) (n : Int) l w
       rw [ov, hown, hA, hP] at e2
       first
       | (rw [show fu A = A.1 ++ [A.2] by simp [fu, hne], ← List.append_assoc] at e2
          rw [← e2]
          exact ⟨w + 1, by omega, by omega, ⟨⟨rfl, rfl⟩, zF, zB, zN, zX⟩⟩)
       | (rw [show fu A = A.1 by simp [fu, hne]] at e2
          rw [← e2]
          exact ⟨w + 1, by omega, by omega, ⟨⟨rfl, rfl⟩, zF, zB, zN, zX⟩⟩)
      ·have hne : A.2 = ByteArray.empty := ff hc
       refine bn ?_
       refine hK8 _ ?_
       refine aq ?_
       refine ae rfl (ar rfl (by constructor)) ?_
       first | refine ae rfl (bx rfl rfl rfl (by omega)) ?_ | refine ae rfl (cp rfl rfl rfl) ?_
       refine ae rfl (ax rfl (by constructor)) ?_
       refine am ?_
       dsimp only [St.put]
       have e2 := m3 c.rs (k : Int) (n : Int) l w
       rw [ov, hown, hA, hP] at e2
       first
       | (rw [show fu A = A.1 ++ [A.2] by simp [fu, hne], ← List.append_assoc] at e2
          rw [← e2]
          exact ⟨w + 1, by omega, by omega, ⟨⟨rfl, rfl⟩, zF, zB, zN, zX⟩⟩)
       | (rw [show fu A = A.1 by simp [fu, hne]] at e2
          rw [← e2]
          exact ⟨w + 1, by omega, by omega, ⟨⟨rfl, rfl⟩, zF, zB, zN, zX⟩⟩)
  ·replace hc := of_decide_eq_false hc
   refine co ?_
   refine hK4 _ ?_
   refine aj fun K32 hK32 => ?_
   refine aq ?_
   refine ae rfl (ar rfl (by constructor)) ?_
   refine ae rfl (ax rfl (by constructor)) ?_
   refine am ?_
   dsimp only [St.put]
   rw [show w = l.length + 1 by omega]
   refine hK32 _ ?_
   refine bk ?_
   refine j3 rfl (ed (by constructor)) zN zS ?_
   exact zW
end Go.Proofs.YthboenlglkmnjaaDoor
namespace Go.AB
open Go Go.RowKit
open Go.AB.Enc (cells)
open Go.PB (Chap bd PlaceD bh CopyD bw)
theorem lt3 {a b c a' b' c' : Int} : j6 [a, b, c] [a', b', c'] < 0 ↔ a < a' ∨ a = a' ∧ (b < b' ∨ b = b' ∧ c < c') := by
 rw [yd (a := [a, b, c]) (b := [a', b', c']) rfl]; simp [ltW]
end Go.AB
namespace Go.Proofs.YthboenlglkmnjaaDoor
set_option maxRecDepth 10000
open Go.RowKit Go.AB
open Go.AB.Enc (cells)
open Go.PB (Chap bd PlaceD bh CopyD bw)
theorem uf9 (a b : PlaceD) : Pure Tryd.prog 52 [val a, val b] (.v (.bool (decide (j6 (f8 a) (f8 b) < 0)))) := by
 refine cx Tryd.func52 rfl (fun m => .v) fun G nx => ?_
 simp only [Tryd.ntmps52, List.length_cons, List.length_nil, Nat.reduceAdd, Nat.reduceSub]
 refine b9 fun hlt => ?_
 dsimp only at hlt
 refine yS fun _ K1 => ?_
 refine yR ?_
 try dsimp only [St.put]
 refine yB rfl rfl rfl ?_
 try dsimp only [St.put]
 refine yB rfl rfl rfl ?_
 refine yA rfl rfl ?_
 refine yN ?_
 dsimp only [St.put]
 refine K1 _ ?_
 refine yS fun _ K2 => ?_
 refine yS fun _ K3 => ?_
 refine yR ?_
 refine yF rfl rfl rfl rfl ?_
 refine yL rfl rfl rfl ?_
 refine yF rfl rfl rfl rfl ?_
 refine yL rfl rfl rfl ?_
 refine ae rfl (em rfl rfl rfl) ?_
 refine yN ?_
 dsimp only [St.put]
 refine K3 _ ?_
 refine bl rfl (fun hc => ?_) (fun hc => ?_)
 ·have h1 : a.ch ≠ b.ch := gn hc
  refine yS fun _ K4 => ?_
  refine yR ?_
  refine yF rfl rfl rfl rfl ?_
  refine yL rfl rfl rfl ?_
  refine yF rfl rfl rfl rfl ?_
  refine yL rfl rfl rfl ?_
  refine ae rfl (cj rfl rfl rfl) ?_
  refine yA rfl rfl ?_
  refine yN ?_
  dsimp only [St.put]
  refine K4 _ ?_
  refine bk ?_
  refine bo rfl (by constructor) zN zS ?_
  exact vb (by rw [decide_eq_decide, f8, f8, lt3]; omega)
 have h1 : a.ch = b.ch := ff hc
 refine bn ?_
 refine K2 _ ?_
 refine yS fun _ K5 => ?_
 refine yS fun _ K6 => ?_
 refine yR ?_
 refine yF rfl rfl rfl rfl ?_
 refine yL rfl rfl rfl ?_
 refine yF rfl rfl rfl rfl ?_
 refine yL rfl rfl rfl ?_
 refine ae rfl (em rfl rfl rfl) ?_
 refine yN ?_
 dsimp only [St.put]
 refine K6 _ ?_
 refine bl rfl (fun hc => ?_) (fun hc => ?_)
 ·have h2 : a.ln ≠ b.ln := gn hc
  refine yS fun _ K7 => ?_
  refine yR ?_
  refine yF rfl rfl rfl rfl ?_
  refine yL rfl rfl rfl ?_
  refine yF rfl rfl rfl rfl ?_
  refine yL rfl rfl rfl ?_
  refine ae rfl (cj rfl rfl rfl) ?_
  refine yA rfl rfl ?_
  refine yN ?_
  dsimp only [St.put]
  refine K7 _ ?_
  refine bk ?_
  refine bo rfl (by constructor) zN zS ?_
  exact vb (by rw [decide_eq_decide, f8, f8, lt3]; omega)
 have h2 : a.ln = b.ln := ff hc
 refine bn ?_
 refine K5 _ ?_
 refine yS fun _ K8 => ?_
 refine yR ?_
 refine yF rfl rfl rfl rfl ?_
 refine yL rfl rfl rfl ?_
 refine yF rfl rfl rfl rfl ?_
 refine yL rfl rfl rfl ?_
 refine ae rfl (cj rfl rfl rfl) ?_
 refine yA rfl rfl ?_
 refine yN ?_
 dsimp only [St.put]
 refine K8 _ ?_
 refine bk ?_
 refine bo rfl (by constructor) zN zS ?_
 exact vb (by rw [decide_eq_decide, f8, f8, lt3]; omega)
end Go.Proofs.YthboenlglkmnjaaDoor
namespace Go.AB
open Go Go.RowKit
open Go.AB.Enc (cells)
open Go.PB (Chap bd PlaceD bh CopyD bw)
theorem before_cmp {a b : PlaceD} : j6 (f8 b) (f8 a) < 0 ↔ 0 < gt a b := by
 rw [f8, f8, lt3]
 have := @cmpP_le a b
 constructor
 ·intro h
  refine Classical.byContradiction fun h2 => ?_
  have := this.1 h2
  omega
 ·intro h
  refine Classical.byContradiction fun h2 => ?_
  exact this.2 (by omega) h
theorem ucb {x : Chap} {rs : List bh} {k m : Nat} {l : List ByteArray} (h : x.lines[m]? = some l) : ((ef rs k x).lines.take (m + 1)).all (fun l => inB l.length 1 10) = (((ef rs k x).lines.take m).all (fun l => inB l.length 1 10) && inB (gz rs (k : Int) (m : Int) l).length 1 10) := ja (nz h)
theorem x7 {t : bd} {k : Nat} {x : PW} {cs : List CopyD} (hx : (dq t)[k]? = some x) : er ((dq t).take (k + 1)) cs = er ((dq t).take k) cs ++ (bif g9 cs x then [x.1] else []) := by
 rw [List.take_add_one, hx, Option.toList_some, sy]
end Go.AB
namespace Go.Proofs.YthboenlglkmnjaaDoor
set_option maxRecDepth 10000
open Go.RowKit Go.AB
open Go.AB.Enc (cells)
open Go.PB (Chap bd PlaceD bh CopyD bw)
set_option maxHeartbeats 4000000 in
theorem ux (t : bd) (c : CopyD) (ht : ck t = true) : Pure Tryd.prog 33 [dn t, val c] (.v (.bool (eo t c))) := by
 refine cx Tryd.func33 rfl (fun m => .v) fun G nx => ?_
 simp only [Tryd.ntmps33, List.length_cons, List.length_nil, Nat.reduceAdd, Nat.reduceSub]
 refine b9 fun hlt => ?_
 dsimp only at hlt
 obtain ⟨htx1, htx2, htx3⟩ := i3 ht
 refine fj 1 (fun hf => ?_)
 have hf1 := (fit_lst.1 (fit_agg.1 hf _ (by exact List.mem_cons_of_mem _ (List.mem_cons_self ..)))).1
 refine aj fun K1 hK1 => ?_
 refine aq ?_
 try dsimp only [St.put]
 refine av rfl (cw rfl rfl (by simp) ?_)
 try dsimp only [St.put]
 refine av rfl (cw rfl rfl (by simp) ?_)
 refine ae rfl (ax rfl (by constructor)) ?_
 refine am ?_
 dsimp only [St.put]
 refine hK1 _ ?_
 refine aj fun K2 hK2 => ?_
 refine aj fun K3 hK3 => ?_
 refine aq ?_
 first | refine ae rfl (bg rfl rfl rfl) ?_ | refine ae rfl (bi rfl rfl) ?_
 try dsimp only [St.put]
 first | refine aa rfl (aw rfl rfl) ?_ | refine aa rfl (ah rfl rfl (Enc.len _)) ?_ | refine aa rfl (ah rfl rfl rfl) ?_ | refine aa rfl (a7 rfl rfl zG trivial (by first | rfl | assumption)) ?_ | refine aa rfl (az rfl rfl zG trivial (by rfl)) ?_ | refine aa rfl (a8 rfl rfl zG trivial (by simp)) ?_ | refine aa rfl (ai rfl rfl zG trivial (ay (by assumption) rfl)) ?_ | refine aa rfl (ai rfl rfl zG trivial (by assumption)) ?_ | refine aa rfl (a9 rfl rfl zG trivial rfl (by assumption) rfl (by decide)) ?_ | refine aa rfl (ba rfl rfl zG (by rfl)) ?_
 try dsimp only [St.put]
 refine av rfl (br rfl rfl rfl (jd _ _ _) ?_)
 refine ae rfl (dt rfl rfl) ?_
 refine ae rfl (ar rfl (by constructor)) ?_
 refine et (fun hs => ?_) (fun hs => ?_)
 ·have h1 : inB c.id 0 9999 = false := by simpa using hs
  refine bv rfl ?_
  refine bv rfl ?_
  refine bv rfl ?_
  refine bv rfl ?_
  first | refine ae rfl (bt rfl rfl (by constructor)) ?_ | refine ae rfl (bu rfl rfl (by constructor)) ?_ | refine ae rfl (b7 rfl rfl rfl rfl) ?_ | refine ae rfl (bz rfl rfl rfl rfl) ?_
  refine am ?_
  dsimp only [St.put]
  refine hK3 _ ?_
  refine bl rfl (fun _ => ?_) (fun h => by cases h)
  skip
  refine aj fun K4 hK4 => ?_
  refine aq ?_
  refine ae rfl (ax rfl (by constructor)) ?_
  refine am ?_
  dsimp only [St.put]
  refine hK4 _ ?_
  refine bk ?_
  refine bo rfl (by constructor) zN zS ?_
  first
  | exact vb (qq h1).symm
  | exact vb (qp (by have := of_decide_eq_true hc; omega)).symm
 ·have h1 : inB c.id 0 9999 = true := by simpa using hs
  first | refine ae rfl (bg rfl rfl rfl) ?_ | refine ae rfl (bi rfl rfl) ?_
  try dsimp only [St.put]
  first | refine aa rfl (aw rfl rfl) ?_ | refine aa rfl (ah rfl rfl (Enc.len _)) ?_ | refine aa rfl (ah rfl rfl rfl) ?_ | refine aa rfl (a7 rfl rfl zG trivial (by first | rfl | assumption)) ?_ | refine aa rfl (az rfl rfl zG trivial (by rfl)) ?_ | refine aa rfl (a8 rfl rfl zG trivial (by simp)) ?_ | refine aa rfl (ai rfl rfl zG trivial (ay (by assumption) rfl)) ?_ | refine aa rfl (ai rfl rfl zG trivial (by assumption)) ?_ | refine aa rfl (a9 rfl rfl zG trivial rfl (by assumption) rfl (by decide)) ?_ | refine aa rfl (ba rfl rfl zG (by rfl)) ?_
  first | refine ae rfl (bj rfl rfl (List.length_map _)) ?_ | refine ae rfl (bj rfl rfl rfl) ?_ | refine ae rfl (b8 rfl rfl) ?_ | refine ae rfl (cd rfl rfl) ?_ | refine ae rfl (cb rfl rfl) ?_ | refine ae rfl (ca rfl rfl (by omega)) ?_
  refine ae rfl (g7 rfl rfl rfl) ?_
  first | refine ae rfl (bt rfl rfl (by constructor)) ?_ | refine ae rfl (bu rfl rfl (by constructor)) ?_ | refine ae rfl (b7 rfl rfl rfl rfl) ?_ | refine ae rfl (bz rfl rfl rfl rfl) ?_
  refine am ?_
  dsimp only [St.put]
  refine hK3 _ ?_
  refine bl rfl (fun hc => ?_) (fun hc => ?_)
  ·skip
   refine aj fun K5 hK5 => ?_
   refine aq ?_
   refine ae rfl (ax rfl (by constructor)) ?_
   refine am ?_
   dsimp only [St.put]
   refine hK5 _ ?_
   refine bk ?_
   refine bo rfl (by constructor) zN zS ?_
   first
   | exact vb (qq h1).symm
   | exact vb (qp (by have := of_decide_eq_true hc; omega)).symm
  ·have hl20 : c.rs.length ≤ 20 := by have := of_decide_eq_false hc; omega
   refine bn ?_
   refine hK2 _ ?_
   refine aj fun K6 hK6 => ?_
   refine aj fun K7 hK7 => ?_
   refine aq ?_
   refine ae rfl (ax rfl (by constructor)) ?_
   refine am ?_
   dsimp only [St.put]
   refine hK7 _ ?_
   refine bq ?_
   refine cg 9 ?_
   refine zQ ?_
   refine cn (G) zX ?_
   dsimp only
   refine cz (X := Nat) (fun k => k ≤ c.rs.length ∧ (c.rs.take k).all (fo t) = true ∧ fa (c.rs.take k) = true) (fun k => c.rs.length - k) (fun k => [(5, .v (.int .i64 (k : Int))), (6, .any), (7, .any), (8, .any)]) (fun k G' => G') 0 rfl ?_ ?_ (fun _ _ h => h) ?_ ?_ ?_
   ·exact ⟨Nat.zero_le _, rfl, rfl⟩
   ·exact zF
   ·rintro k hI
    exact zL
   ·exact fun _ _ _ _ h => .inl h
   ·rintro k hI
    dsimp only at hI ⊢
    refine aj fun K8 hK8 => ?_
    refine aj fun K9 hK9 => ?_
    refine aq ?_
    refine ae rfl (ar rfl (by constructor)) ?_
    first | refine ae rfl (bg rfl rfl rfl) ?_ | refine ae rfl (bi rfl rfl) ?_
    try dsimp only [St.put]
    first | refine aa rfl (aw rfl rfl) ?_ | refine aa rfl (ah rfl rfl (Enc.len _)) ?_ | refine aa rfl (ah rfl rfl rfl) ?_ | refine aa rfl (a7 rfl rfl zG trivial (by first | rfl | assumption)) ?_ | refine aa rfl (az rfl rfl zG trivial (by rfl)) ?_ | refine aa rfl (a8 rfl rfl zG trivial (by simp)) ?_ | refine aa rfl (ai rfl rfl zG trivial (ay (by assumption) rfl)) ?_ | refine aa rfl (ai rfl rfl zG trivial (by assumption)) ?_ | refine aa rfl (a9 rfl rfl zG trivial rfl (by assumption) rfl (by decide)) ?_ | refine aa rfl (ba rfl rfl zG (by rfl)) ?_
    first | refine ae rfl (bj rfl rfl (List.length_map _)) ?_ | refine ae rfl (bj rfl rfl rfl) ?_ | refine ae rfl (b8 rfl rfl) ?_ | refine ae rfl (cd rfl rfl) ?_ | refine ae rfl (cb rfl rfl) ?_ | refine ae rfl (ca rfl rfl (by omega)) ?_
    refine ae rfl (cj rfl rfl rfl) ?_
    refine am ?_
    dsimp only [St.put]
    refine hK9 _ ?_
    refine bl rfl (fun hc => ?_) (fun hc => ?_)
    ·replace hc := of_decide_eq_true hc
     obtain ⟨r, hx⟩ : ∃ x, c.rs[k]? = some x := cm (by omega)
     refine bn ?_
     refine hK8 _ ?_
     refine aj fun K10 hK10 => ?_
     refine bq ?_
     refine aj fun K11 hK11 => ?_
     refine aq ?_
     first | refine ae rfl (bg rfl rfl rfl) ?_ | refine ae rfl (bi rfl rfl) ?_
     try dsimp only [St.put]
     first | refine aa rfl (aw rfl rfl) ?_ | refine aa rfl (ah rfl rfl (Enc.len _)) ?_ | refine aa rfl (ah rfl rfl rfl) ?_ | refine aa rfl (a7 rfl rfl zG trivial (by first | rfl | assumption)) ?_ | refine aa rfl (az rfl rfl zG trivial (by rfl)) ?_ | refine aa rfl (a8 rfl rfl zG trivial (by simp)) ?_ | refine aa rfl (ai rfl rfl zG trivial (ay (by assumption) rfl)) ?_ | refine aa rfl (ai rfl rfl zG trivial (by assumption)) ?_ | refine aa rfl (a9 rfl rfl zG trivial rfl (by assumption) rfl (by decide)) ?_ | refine aa rfl (ba rfl rfl zG (by rfl)) ?_
     refine ae rfl (ar rfl (by constructor)) ?_
     try dsimp only [St.put]
     first | refine ae rfl (bf rfl rfl rfl rfl (bm (by assumption)) (Enc.len _)) ?_ | refine ae rfl (bf rfl rfl rfl rfl (by assumption) rfl) ?_ | refine ae rfl (cr rfl rfl rfl (by first | exact ct _ | exact rfl) (by omega)) ?_ | refine ae rfl (bf rfl rfl rfl (by omega) (bm (by assumption)) (Enc.len _)) ?_
     try dsimp only [St.put]
     first | refine aa rfl (aw rfl rfl) ?_ | refine aa rfl (ah rfl rfl (Enc.len _)) ?_ | refine aa rfl (ah rfl rfl rfl) ?_ | refine aa rfl (a7 rfl rfl zG trivial (by first | rfl | assumption)) ?_ | refine aa rfl (az rfl rfl zG trivial (by rfl)) ?_ | refine aa rfl (a8 rfl rfl zG trivial (by simp)) ?_ | refine aa rfl (ai rfl rfl zG trivial (ay (by assumption) rfl)) ?_ | refine aa rfl (ai rfl rfl zG trivial (by assumption)) ?_ | refine aa rfl (a9 rfl rfl zG trivial rfl (by assumption) rfl (by decide)) ?_ | refine aa rfl (ba rfl rfl zG (by rfl)) ?_
     try dsimp only [St.put]
     refine av rfl (di rfl ?_)
     try dsimp only [St.put]
     first | refine av rfl (c8 rfl rfl rfl zG rfl rfl (by rfl) ?_) | refine av rfl (dh rfl rfl rfl zG (by constructor) rfl zO ?_)
     refine am ?_
     dsimp only [St.put]
     refine hK11 _ ?_
     refine ep (i := 6) rfl zG zC ?_
     dsimp only
     refine aj fun K12 hK12 => ?_
     refine aj fun K13 hK13 => ?_
     refine aq ?_
     try dsimp only [St.put]
     first | refine aa rfl (aw rfl rfl) ?_ | refine aa rfl (ah rfl rfl (Enc.len _)) ?_ | refine aa rfl (ah rfl rfl rfl) ?_ | refine aa rfl (a7 rfl rfl zG trivial (by first | rfl | assumption)) ?_ | refine aa rfl (az rfl rfl zG trivial (by rfl)) ?_ | refine aa rfl (a8 rfl rfl zG trivial (by simp)) ?_ | refine aa rfl (ai rfl rfl zG trivial (ay (by assumption) rfl)) ?_ | refine aa rfl (ai rfl rfl zG trivial (by assumption)) ?_ | refine aa rfl (a9 rfl rfl zG trivial rfl (by assumption) rfl (by decide)) ?_ | refine aa rfl (ba rfl rfl zG (by rfl)) ?_
     try dsimp only [St.put]
     first | refine aa rfl (aw rfl rfl) ?_ | refine aa rfl (ah rfl rfl (Enc.len _)) ?_ | refine aa rfl (ah rfl rfl rfl) ?_ | refine aa rfl (a7 rfl rfl zG trivial (by first | rfl | assumption)) ?_ | refine aa rfl (az rfl rfl zG trivial (by rfl)) ?_ | refine aa rfl (a8 rfl rfl zG trivial (by simp)) ?_ | refine aa rfl (ai rfl rfl zG trivial (ay (by assumption) rfl)) ?_ | refine aa rfl (ai rfl rfl zG trivial (by assumption)) ?_ | refine aa rfl (a9 rfl rfl zG trivial rfl (by assumption) rfl (by decide)) ?_ | refine aa rfl (ba rfl rfl zG (by rfl)) ?_
     try dsimp only [St.put]
     refine av rfl (br rfl rfl rfl (uau t r ht) ?_)
     refine ae rfl (dt rfl rfl) ?_
     refine am ?_
     dsimp only [St.put]
     refine hK13 _ ?_
     refine bl rfl (fun hc => ?_) (fun hc => ?_)
     ·have hrd : fo t r = false := by simpa using hc
      refine aj fun K14 hK14 => ?_
      refine aq ?_
      refine ae rfl (ax rfl (by constructor)) ?_
      refine am ?_
      dsimp only [St.put]
      refine hK14 _ ?_
      refine bk ?_
      refine bo rfl (by constructor) zN zS ?_
      exact vb (mm hx hrd).symm
     ·have hrd : fo t r = true := by simpa using hc
      refine bn ?_
      refine hK12 _ ?_
      refine cg 9 ?_
      refine zQ ?_
      refine ky (X := Bool) (fun b => (b = true → fa (c.rs.take (k + 1)) = false) ∧ (b = false → fa (c.rs.take (k + 1)) = true)) (fun b => [(70, .v (.bool b))]) (fun b G' => G') rfl ?_ (fun _ _ _ _ h => .inl h) ?_ ?_
      ·rintro b hI
       exact zL
      ·refine kx [(0, none), (1, none), (2, none), (3, none), (4, none), (5, none), (6, none), (7, none), (8, none), (9, none), (10, none), (11, none)] (fun _ => false) (fun i => [0, 1, 2, 3, 5, 7, 8, 9, 10].contains i) 24 (rl [12, 24]) (by kernel_rfl) (by kernel_rfl) ?_
       refine ak rfl rfl rfl rfl (ar rfl (by constructor)) ?_
       refine ak rfl rfl rfl rfl (g7 rfl rfl rfl) ?_
       refine ak rfl rfl rfl rfl (ar rfl (by constructor)) ?_
       refine k7 (fun hs => ?_) (fun hs => ?_)
       ·have s1 := of_decide_eq_true hs
        obtain ⟨a, ha⟩ : ∃ x, c.rs[k - 1]? = some x := cm (by omega)
        have hst0 := vv hx (by omega) ha hI.2.2
        first | refine ak rfl rfl rfl rfl (bg rfl rfl rfl) ?_ | refine ak rfl rfl rfl rfl (bi rfl rfl) ?_
        try dsimp only [St.put]
        refine af rfl rfl rfl rfl (c := val r.pl) (io (cs := cells r) rfl rfl (show 3 ≤ 5 by decide)) ?_
        first | refine ak rfl rfl rfl rfl (bg rfl rfl rfl) ?_ | refine ak rfl rfl rfl rfl (bi rfl rfl) ?_
        try dsimp only [St.put]
        first | refine af rfl rfl rfl rfl (aw rfl rfl) ?_ | refine af rfl rfl rfl rfl (ah rfl rfl (Enc.len _)) ?_ | refine af rfl rfl rfl rfl (ah rfl rfl rfl) ?_ | refine af rfl rfl rfl rfl (a7 rfl rfl zG (by simp) (by first | rfl | assumption)) ?_ | refine af rfl rfl rfl rfl (az rfl rfl zG (by simp) (by rfl)) ?_ | refine af rfl rfl rfl rfl (a8 rfl rfl zG (by simp) (by simp)) ?_ | refine af rfl rfl rfl rfl (ai rfl rfl zG (by simp) (ay (by assumption) rfl)) ?_ | refine af rfl rfl rfl rfl (ai rfl rfl zG (by simp) (by assumption)) ?_ | refine af rfl rfl rfl rfl (a9 rfl rfl zG (by simp) rfl (by assumption) rfl (by decide)) ?_ | refine af rfl rfl rfl rfl (ba rfl rfl zG (by rfl)) ?_
        refine ak rfl rfl rfl rfl (ar rfl (by constructor)) ?_
        first | refine ak rfl rfl rfl rfl (ip rfl rfl rfl (by omega)) ?_ | refine ak rfl rfl rfl rfl (jh rfl rfl rfl) ?_
        try dsimp only [St.put]
        refine ak rfl rfl rfl rfl (bf (k := k - 1) rfl rfl rfl (by omega) (bm ha) (Enc.len _)) ?_
        first | refine ak rfl rfl rfl rfl (bg rfl rfl rfl) ?_ | refine ak rfl rfl rfl rfl (bi rfl rfl) ?_
        try dsimp only [St.put]
        refine af rfl rfl rfl rfl (c := val a.pl) (io (cs := cells a) rfl rfl (show 3 ≤ 5 by decide)) ?_
        refine dc ?_
        refine dj [12] (by kernel_rfl) (by simp) ?_
        refine dz ?_ ?_
        ·try dsimp only [St.put]
         refine dr rfl rfl rfl (br rfl rfl rfl (uf9 r.pl a.pl) ?_)
         refine fm [(13, none), (14, none), (15, none), (16, none), (17, none), (18, none), (19, none), (20, none), (21, none), (22, none), (23, none), (24, none), (25, none), (26, none), (27, none), (28, none), (29, none), (30, none), (31, none), (32, none), (33, none), (34, none), (35, none)] (fun i => [13, 14, 16, 18, 19, 20, 21, 23, 24, 25, 27, 28, 29, 30, 32, 33, 34, 35].contains i) 0 (rl [36]) (by kernel_rfl) ?_
         refine ak rfl rfl rfl rfl (ar rfl (by constructor)) ?_
         refine k7 (fun hs => ?_) (fun hs => ?_)
         ·have s2 := of_decide_eq_true hs
          refine bp rfl rfl rfl ?_
          refine bp rfl rfl rfl ?_
          refine bp rfl rfl rfl ?_
          refine bp rfl rfl rfl ?_
          refine bp rfl rfl rfl ?_
          refine bp rfl rfl rfl ?_
          refine bp rfl rfl rfl ?_
          refine bp rfl rfl rfl ?_
          refine bp rfl rfl rfl ?_
          refine bp rfl rfl rfl ?_
          refine bp rfl rfl rfl ?_
          refine bp rfl rfl rfl ?_
          refine bp rfl rfl rfl ?_
          refine bp rfl rfl rfl ?_
          refine bp rfl rfl rfl ?_
          refine bp rfl rfl rfl ?_
          refine bp rfl rfl rfl ?_
          refine bp rfl rfl rfl ?_
          refine bp rfl rfl rfl ?_
          refine bp rfl rfl rfl ?_
          first | refine ak rfl rfl rfl rfl (bt rfl rfl (by constructor)) ?_ | refine ak rfl rfl rfl rfl (bu rfl rfl (by constructor)) ?_ | refine ak rfl rfl rfl rfl (b7 rfl rfl rfl rfl) ?_ | refine ak rfl rfl rfl rfl (bz rfl rfl rfl rfl) ?_
          first | refine ak rfl rfl rfl rfl (bt rfl rfl (by constructor)) ?_ | refine ak rfl rfl rfl rfl (bu rfl rfl (by constructor)) ?_ | refine ak rfl rfl rfl rfl (b7 rfl rfl rfl rfl) ?_ | refine ak rfl rfl rfl rfl (bz rfl rfl rfl rfl) ?_
          refine dc ?_
          dsimp only [St.put]
          refine gw (by kernel_rfl) ?_
          refine ⟨_, ?_, ⟨⟨rfl, rfl⟩, zF, zB, zN, zX⟩⟩
          first
          | (have q1 : ¬ (0 : Int) < (k : Int) := s1
             refine ⟨fun h => absurd h (by decide), fun _ => ?_⟩
             obtain rfl : k = 0 := by omega
             exact n6 hx)
          | (have q2 : j6 (f8 r.pl) (f8 a.pl) < 0 := s2
             rw [hst0]
             exact ⟨fun _ => Bool.eq_false_iff.2 fun h => (stepB_true.1 h).1 (before_cmp.1 q2), fun h => absurd h (by decide)⟩)
          | (have q3 : r.pl = a.pl := s3
             rw [hst0]
             refine ⟨fun h => ?_, fun h => ?_⟩
             ·exact Bool.eq_false_iff.2 fun h2 => by
                       have := (stepB_true.1 h2).2 q3.symm
                       rw [this] at h
                       exact absurd h (by decide)
             ·exact stepB_true.2 ⟨fun h2 => s2 (before_cmp.2 h2), fun _ => by simpa using h⟩)
          | (have q3 : ¬ r.pl = a.pl := s3
             rw [hst0]
             exact ⟨fun h => absurd h (by decide), fun _ => stepB_true.2 ⟨fun h2 => s2 (before_cmp.2 h2), fun e => absurd e.symm q3⟩⟩)
         ·have s2 := of_decide_eq_false hs
          first | refine ak rfl rfl rfl rfl (bg rfl rfl rfl) ?_ | refine ak rfl rfl rfl rfl (bi rfl rfl) ?_
          try dsimp only [St.put]
          refine af rfl rfl rfl rfl (c := val r.pl) (io (cs := cells r) rfl rfl (show 3 ≤ 5 by decide)) ?_
          first | refine ak rfl rfl rfl rfl (bg rfl rfl rfl) ?_ | refine ak rfl rfl rfl rfl (bi rfl rfl) ?_
          try dsimp only [St.put]
          first | refine af rfl rfl rfl rfl (aw rfl rfl) ?_ | refine af rfl rfl rfl rfl (ah rfl rfl (Enc.len _)) ?_ | refine af rfl rfl rfl rfl (ah rfl rfl rfl) ?_ | refine af rfl rfl rfl rfl (a7 rfl rfl zG (by simp) (by first | rfl | assumption)) ?_ | refine af rfl rfl rfl rfl (az rfl rfl zG (by simp) (by rfl)) ?_ | refine af rfl rfl rfl rfl (a8 rfl rfl zG (by simp) (by simp)) ?_ | refine af rfl rfl rfl rfl (ai rfl rfl zG (by simp) (ay (by assumption) rfl)) ?_ | refine af rfl rfl rfl rfl (ai rfl rfl zG (by simp) (by assumption)) ?_ | refine af rfl rfl rfl rfl (a9 rfl rfl zG (by simp) rfl (by assumption) rfl (by decide)) ?_ | refine af rfl rfl rfl rfl (ba rfl rfl zG (by rfl)) ?_
          refine ak rfl rfl rfl rfl (ar rfl (by constructor)) ?_
          first | refine ak rfl rfl rfl rfl (ip rfl rfl rfl (by omega)) ?_ | refine ak rfl rfl rfl rfl (jh rfl rfl rfl) ?_
          try dsimp only [St.put]
          refine ak rfl rfl rfl rfl (bf (k := k - 1) rfl rfl rfl (by omega) (bm ha) (Enc.len _)) ?_
          first | refine ak rfl rfl rfl rfl (bg rfl rfl rfl) ?_ | refine ak rfl rfl rfl rfl (bi rfl rfl) ?_
          try dsimp only [St.put]
          refine af rfl rfl rfl rfl (c := val a.pl) (io (cs := cells a) rfl rfl (show 3 ≤ 5 by decide)) ?_
          refine ak rfl rfl rfl rfl (sd (x := r.pl) (y := a.pl) rfl rfl rfl) ?_
          refine ak rfl rfl rfl rfl (ar rfl (by constructor)) ?_
          refine k7 (fun hs => ?_) (fun hs => ?_)
          ·have s3 := of_decide_eq_true hs
           first | refine ak rfl rfl rfl rfl (bg rfl rfl rfl) ?_ | refine ak rfl rfl rfl rfl (bi rfl rfl) ?_
           try dsimp only [St.put]
           first | refine af rfl rfl rfl rfl (aw rfl rfl) ?_ | refine af rfl rfl rfl rfl (ah rfl rfl (Enc.len _)) ?_ | refine af rfl rfl rfl rfl (ah rfl rfl rfl) ?_ | refine af rfl rfl rfl rfl (a7 rfl rfl zG (by simp) (by first | rfl | assumption)) ?_ | refine af rfl rfl rfl rfl (az rfl rfl zG (by simp) (by rfl)) ?_ | refine af rfl rfl rfl rfl (a8 rfl rfl zG (by simp) (by simp)) ?_ | refine af rfl rfl rfl rfl (ai rfl rfl zG (by simp) (ay (by assumption) rfl)) ?_ | refine af rfl rfl rfl rfl (ai rfl rfl zG (by simp) (by assumption)) ?_ | refine af rfl rfl rfl rfl (a9 rfl rfl zG (by simp) rfl (by assumption) rfl (by decide)) ?_ | refine af rfl rfl rfl rfl (ba rfl rfl zG (by rfl)) ?_
           refine ak rfl rfl rfl rfl (ar rfl (by constructor)) ?_
           first | refine ak rfl rfl rfl rfl (ip rfl rfl rfl (by omega)) ?_ | refine ak rfl rfl rfl rfl (jh rfl rfl rfl) ?_
           try dsimp only [St.put]
           refine ak rfl rfl rfl rfl (bf (k := k - 1) rfl rfl rfl (by omega) (bm ha) (Enc.len _)) ?_
           first | refine ak rfl rfl rfl rfl (bg rfl rfl rfl) ?_ | refine ak rfl rfl rfl rfl (bi rfl rfl) ?_
           try dsimp only [St.put]
           first | refine af rfl rfl rfl rfl (aw rfl rfl) ?_ | refine af rfl rfl rfl rfl (ah rfl rfl (Enc.len _)) ?_ | refine af rfl rfl rfl rfl (ah rfl rfl rfl) ?_ | refine af rfl rfl rfl rfl (a7 rfl rfl zG (by simp) (by first | rfl | assumption)) ?_ | refine af rfl rfl rfl rfl (az rfl rfl zG (by simp) (by rfl)) ?_ | refine af rfl rfl rfl rfl (a8 rfl rfl zG (by simp) (by simp)) ?_ | refine af rfl rfl rfl rfl (ai rfl rfl zG (by simp) (ay (by assumption) rfl)) ?_ | refine af rfl rfl rfl rfl (ai rfl rfl zG (by simp) (by assumption)) ?_ | refine af rfl rfl rfl rfl (a9 rfl rfl zG (by simp) rfl (by assumption) rfl (by decide)) ?_ | refine af rfl rfl rfl rfl (ba rfl rfl zG (by rfl)) ?_
           refine ak rfl rfl rfl rfl (em rfl rfl rfl) ?_
           first | refine ak rfl rfl rfl rfl (bt rfl rfl (by constructor)) ?_ | refine ak rfl rfl rfl rfl (bu rfl rfl (by constructor)) ?_ | refine ak rfl rfl rfl rfl (b7 rfl rfl rfl rfl) ?_ | refine ak rfl rfl rfl rfl (bz rfl rfl rfl rfl) ?_
           first | refine ak rfl rfl rfl rfl (bt rfl rfl (by constructor)) ?_ | refine ak rfl rfl rfl rfl (bu rfl rfl (by constructor)) ?_ | refine ak rfl rfl rfl rfl (b7 rfl rfl rfl rfl) ?_ | refine ak rfl rfl rfl rfl (bz rfl rfl rfl rfl) ?_
           first | refine ak rfl rfl rfl rfl (bt rfl rfl (by constructor)) ?_ | refine ak rfl rfl rfl rfl (bu rfl rfl (by constructor)) ?_ | refine ak rfl rfl rfl rfl (b7 rfl rfl rfl rfl) ?_ | refine ak rfl rfl rfl rfl (bz rfl rfl rfl rfl) ?_
           refine dc ?_
           dsimp only [St.put]
           refine gw (by kernel_rfl) ?_
           refine ⟨_, ?_, ⟨⟨rfl, rfl⟩, zF, zB, zN, zX⟩⟩
           first
           | (have q1 : ¬ (0 : Int) < (k : Int) := s1
              refine ⟨fun h => absurd h (by decide), fun _ => ?_⟩
              obtain rfl : k = 0 := by omega
              exact n6 hx)
           | (have q2 : j6 (f8 r.pl) (f8 a.pl) < 0 := s2
              rw [hst0]
              exact ⟨fun _ => Bool.eq_false_iff.2 fun h => (stepB_true.1 h).1 (before_cmp.1 q2), fun h => absurd h (by decide)⟩)
           | (have q3 : r.pl = a.pl := s3
              rw [hst0]
              refine ⟨fun h => ?_, fun h => ?_⟩
              ·exact Bool.eq_false_iff.2 fun h2 => by
                        have := (stepB_true.1 h2).2 q3.symm
                        rw [this] at h
                        exact absurd h (by decide)
              ·exact stepB_true.2 ⟨fun h2 => s2 (before_cmp.2 h2), fun _ => by simpa using h⟩)
           | (have q3 : ¬ r.pl = a.pl := s3
              rw [hst0]
              exact ⟨fun h => absurd h (by decide), fun _ => stepB_true.2 ⟨fun h2 => s2 (before_cmp.2 h2), fun e => absurd e.symm q3⟩⟩)
          ·have s3 := of_decide_eq_false hs
           refine bp rfl rfl rfl ?_
           refine bp rfl rfl rfl ?_
           refine bp rfl rfl rfl ?_
           refine bp rfl rfl rfl ?_
           refine bp rfl rfl rfl ?_
           refine bp rfl rfl rfl ?_
           refine bp rfl rfl rfl ?_
           refine bp rfl rfl rfl ?_
           first | refine ak rfl rfl rfl rfl (bt rfl rfl (by constructor)) ?_ | refine ak rfl rfl rfl rfl (bu rfl rfl (by constructor)) ?_ | refine ak rfl rfl rfl rfl (b7 rfl rfl rfl rfl) ?_ | refine ak rfl rfl rfl rfl (bz rfl rfl rfl rfl) ?_
           first | refine ak rfl rfl rfl rfl (bt rfl rfl (by constructor)) ?_ | refine ak rfl rfl rfl rfl (bu rfl rfl (by constructor)) ?_ | refine ak rfl rfl rfl rfl (b7 rfl rfl rfl rfl) ?_ | refine ak rfl rfl rfl rfl (bz rfl rfl rfl rfl) ?_
           first | refine ak rfl rfl rfl rfl (bt rfl rfl (by constructor)) ?_ | refine ak rfl rfl rfl rfl (bu rfl rfl (by constructor)) ?_ | refine ak rfl rfl rfl rfl (b7 rfl rfl rfl rfl) ?_ | refine ak rfl rfl rfl rfl (bz rfl rfl rfl rfl) ?_
           refine dc ?_
           dsimp only [St.put]
           refine gw (by kernel_rfl) ?_
           refine ⟨_, ?_, ⟨⟨rfl, rfl⟩, zF, zB, zN, zX⟩⟩
           first
           | (have q1 : ¬ (0 : Int) < (k : Int) := s1
              refine ⟨fun h => absurd h (by decide), fun _ => ?_⟩
              obtain rfl : k = 0 := by omega
              exact n6 hx)
           | (have q2 : j6 (f8 r.pl) (f8 a.pl) < 0 := s2
              rw [hst0]
              exact ⟨fun _ => Bool.eq_false_iff.2 fun h => (stepB_true.1 h).1 (before_cmp.1 q2), fun h => absurd h (by decide)⟩)
           | (have q3 : r.pl = a.pl := s3
              rw [hst0]
              refine ⟨fun h => ?_, fun h => ?_⟩
              ·exact Bool.eq_false_iff.2 fun h2 => by
                        have := (stepB_true.1 h2).2 q3.symm
                        rw [this] at h
                        exact absurd h (by decide)
              ·exact stepB_true.2 ⟨fun h2 => s2 (before_cmp.2 h2), fun _ => by simpa using h⟩)
           | (have q3 : ¬ r.pl = a.pl := s3
              rw [hst0]
              exact ⟨fun h => absurd h (by decide), fun _ => stepB_true.2 ⟨fun h2 => s2 (before_cmp.2 h2), fun e => absurd e.symm q3⟩⟩)
        exact d8
       ·have s1 := of_decide_eq_false hs
        refine bp rfl rfl rfl ?_
        refine bp rfl rfl rfl ?_
        refine bp rfl rfl rfl ?_
        refine bp rfl rfl rfl ?_
        refine bp rfl rfl rfl ?_
        refine bp rfl rfl rfl ?_
        refine bp rfl rfl rfl ?_
        refine bp rfl rfl rfl ?_
        refine bp rfl rfl rfl ?_
        refine dc ?_
        refine dj [12] (by kernel_rfl) (by simp) ?_
        refine dz ?_ ?_
        ·refine mp rfl rfl rfl ?_
         refine fm [(13, none), (14, none), (15, none), (16, none), (17, none), (18, none), (19, none), (20, none), (21, none), (22, none), (23, none), (24, none), (25, none), (26, none), (27, none), (28, none), (29, none), (30, none), (31, none), (32, none), (33, none), (34, none), (35, none)] (fun i => [13, 14, 16, 18, 19, 20, 21, 23, 24, 25, 27, 28, 29, 30, 32, 33, 34, 35].contains i) 0 (rl [36]) (by kernel_rfl) ?_
         refine bp rfl rfl rfl ?_
         refine bp rfl rfl rfl ?_
         refine bp rfl rfl rfl ?_
         refine bp rfl rfl rfl ?_
         refine bp rfl rfl rfl ?_
         refine bp rfl rfl rfl ?_
         refine bp rfl rfl rfl ?_
         refine bp rfl rfl rfl ?_
         refine bp rfl rfl rfl ?_
         refine bp rfl rfl rfl ?_
         refine bp rfl rfl rfl ?_
         refine bp rfl rfl rfl ?_
         refine bp rfl rfl rfl ?_
         refine bp rfl rfl rfl ?_
         refine bp rfl rfl rfl ?_
         refine bp rfl rfl rfl ?_
         refine bp rfl rfl rfl ?_
         refine bp rfl rfl rfl ?_
         refine bp rfl rfl rfl ?_
         refine bp rfl rfl rfl ?_
         refine bp rfl rfl rfl ?_
         refine bp rfl rfl rfl ?_
         first | refine ak rfl rfl rfl rfl (bt rfl rfl (by constructor)) ?_ | refine ak rfl rfl rfl rfl (bu rfl rfl (by constructor)) ?_ | refine ak rfl rfl rfl rfl (b7 rfl rfl rfl rfl) ?_ | refine ak rfl rfl rfl rfl (bz rfl rfl rfl rfl) ?_
         refine dc ?_
         dsimp only [St.put]
         refine gw (by kernel_rfl) ?_
         refine ⟨_, ?_, ⟨⟨rfl, rfl⟩, zF, zB, zN, zX⟩⟩
         first
         | (have q1 : ¬ (0 : Int) < (k : Int) := s1
            refine ⟨fun h => absurd h (by decide), fun _ => ?_⟩
            obtain rfl : k = 0 := by omega
            exact n6 hx)
         | (have q2 : j6 (f8 r.pl) (f8 a.pl) < 0 := s2
            rw [hst0]
            exact ⟨fun _ => Bool.eq_false_iff.2 fun h => (stepB_true.1 h).1 (before_cmp.1 q2), fun h => absurd h (by decide)⟩)
         | (have q3 : r.pl = a.pl := s3
            rw [hst0]
            refine ⟨fun h => ?_, fun h => ?_⟩
            ·exact Bool.eq_false_iff.2 fun h2 => by
              have := (stepB_true.1 h2).2 q3.symm
              rw [this] at h
              exact absurd h (by decide)
            ·exact stepB_true.2 ⟨fun h2 => s2 (before_cmp.2 h2), fun _ => by simpa using h⟩)
         | (have q3 : ¬ r.pl = a.pl := s3
            rw [hst0]
            exact ⟨fun h => absurd h (by decide), fun _ => stepB_true.2 ⟨fun h2 => s2 (before_cmp.2 h2), fun e => absurd e.symm q3⟩⟩)
        exact d8
      ·rintro b hst
       dsimp only at hst ⊢
       refine bl rfl (fun hc => ?_) (fun hc => ?_)
       ·have hord := hst.1 hc
        refine aj fun K16 hK16 => ?_
        refine aq ?_
        refine ae rfl (ax rfl (by constructor)) ?_
        refine am ?_
        dsimp only [St.put]
        refine hK16 _ ?_
        refine bk ?_
        refine bo rfl (by constructor) zN zS ?_
        exact vb (s5 (k := k + 1) hord).symm
       ·have hord := hst.2 hc
        refine bn ?_
        refine hK10 _ ?_
        refine aq ?_
        refine ae rfl (ar rfl (by constructor)) ?_
        first | refine ae rfl (bx rfl rfl rfl (by omega)) ?_ | refine ae rfl (cp rfl rfl rfl) ?_
        refine ae rfl (ax rfl (by constructor)) ?_
        refine am ?_
        dsimp only [St.put]
        exact ⟨k + 1, by omega, ⟨by omega, by rw [ja hx, hI.2.1, hrd]; rfl, hord⟩, ⟨⟨rfl, rfl⟩, zF, zB, zN, zX⟩⟩
    ·replace hc := of_decide_eq_false hc
     have hv : rsB t c.rs = true := by
      obtain ⟨_, h2, h3⟩ := hI
      rw [dd (by omega)] at h2 h3
      simp [rsB, h2, h3]
     have hrl := ny t c.rs
     refine co ?_
     refine hK6 _ ?_
     refine aj fun K17 hK17 => ?_
     refine aj fun K18 hK18 => ?_
     refine aq ?_
     refine ae rfl (ax rfl (by constructor)) ?_
     refine am ?_
     dsimp only [St.put]
     refine hK18 _ ?_
     refine bq ?_
     refine cg 9 ?_
     refine zQ ?_
     refine cn (G) zX ?_
     dsimp only
     refine cz (X := Nat) (fun j => j ≤ t.length ∧ ((c9 t c.rs).take j).all lnB = true) (fun j => t.length - j) (fun j => [(7, .v (.int .i64 (j : Int))), (8, .any)]) (fun j G' => G') 0 rfl ?_ ?_ (fun _ _ h => h) ?_ ?_ ?_
     ·exact ⟨Nat.zero_le _, rfl⟩
     ·exact zF
     ·rintro j hI
      exact zL
     ·exact fun _ _ _ _ h => .inl h
     ·rintro j hJ
      dsimp only at hJ ⊢
      refine aj fun K19 hK19 => ?_
      refine aj fun K20 hK20 => ?_
      refine aq ?_
      refine ae rfl (ar rfl (by constructor)) ?_
      first | refine ae rfl (bg rfl rfl rfl) ?_ | refine ae rfl (bi rfl rfl) ?_
      try dsimp only [St.put]
      first | refine aa rfl (aw rfl rfl) ?_ | refine aa rfl (ah rfl rfl (Enc.len _)) ?_ | refine aa rfl (ah rfl rfl rfl) ?_ | refine aa rfl (a7 rfl rfl zG trivial (by first | rfl | assumption)) ?_ | refine aa rfl (az rfl rfl zG trivial (by rfl)) ?_ | refine aa rfl (a8 rfl rfl zG trivial (by simp)) ?_ | refine aa rfl (ai rfl rfl zG trivial (ay (by assumption) rfl)) ?_ | refine aa rfl (ai rfl rfl zG trivial (by assumption)) ?_ | refine aa rfl (a9 rfl rfl zG trivial rfl (by assumption) rfl (by decide)) ?_ | refine aa rfl (ba rfl rfl zG (by rfl)) ?_
      first | refine ae rfl (bj rfl rfl (List.length_map _)) ?_ | refine ae rfl (bj rfl rfl rfl) ?_ | refine ae rfl (b8 rfl rfl) ?_ | refine ae rfl (cd rfl rfl) ?_ | refine ae rfl (cb rfl rfl) ?_ | refine ae rfl (ca rfl rfl (by omega)) ?_
      refine ae rfl (cj rfl rfl rfl) ?_
      refine am ?_
      dsimp only [St.put]
      refine hK20 _ ?_
      refine bl rfl (fun hc => ?_) (fun hc => ?_)
      ·replace hc := of_decide_eq_true hc
       obtain ⟨x, hk⟩ : ∃ x, t[j]? = some x := cm (by omega)
       have hy := ph (rs := c.rs) hk
       have hxl := htx3 x (dv hk)
       refine bn ?_
       refine hK19 _ ?_
       refine aj fun K21 hK21 => ?_
       refine bq ?_
       refine aj fun K22 hK22 => ?_
       refine aq ?_
       refine ae rfl (ax rfl (by constructor)) ?_
       refine am ?_
       dsimp only [St.put]
       refine hK22 _ ?_
       refine bq ?_
       refine cg 9 ?_
       refine zQ ?_
       refine cn (G) zX ?_
       dsimp only
       refine cz (X := Nat) (fun m => m ≤ x.lines.length ∧ ((ef c.rs j x).lines.take m).all (fun l => inB l.length 1 10) = true) (fun m => x.lines.length - m) (fun m => [(8, .v (.int .i64 (m : Int)))]) (fun m G' => G') 0 rfl ?_ ?_ (fun _ _ h => h) ?_ ?_ ?_
       ·exact ⟨Nat.zero_le _, rfl⟩
       ·exact zF
       ·rintro m hI
        exact zL
       ·exact fun _ _ _ _ h => .inl h
       ·rintro m hM
        dsimp only at hM ⊢
        refine aj fun K23 hK23 => ?_
        refine aj fun K24 hK24 => ?_
        refine aq ?_
        refine ae rfl (ar rfl (by constructor)) ?_
        first | refine ae rfl (bg rfl rfl rfl) ?_ | refine ae rfl (bi rfl rfl) ?_
        try dsimp only [St.put]
        first | refine aa rfl (aw rfl rfl) ?_ | refine aa rfl (ah rfl rfl (Enc.len _)) ?_ | refine aa rfl (ah rfl rfl rfl) ?_ | refine aa rfl (a7 rfl rfl zG trivial (by first | rfl | assumption)) ?_ | refine aa rfl (az rfl rfl zG trivial (by rfl)) ?_ | refine aa rfl (a8 rfl rfl zG trivial (by simp)) ?_ | refine aa rfl (ai rfl rfl zG trivial (ay (by assumption) rfl)) ?_ | refine aa rfl (ai rfl rfl zG trivial (by assumption)) ?_ | refine aa rfl (a9 rfl rfl zG trivial rfl (by assumption) rfl (by decide)) ?_ | refine aa rfl (ba rfl rfl zG (by rfl)) ?_
        refine ae rfl (ar rfl (by constructor)) ?_
        try dsimp only [St.put]
        first | refine ae rfl (bf rfl rfl rfl rfl (bm (by assumption)) (Enc.len _)) ?_ | refine ae rfl (bf rfl rfl rfl rfl (by assumption) rfl) ?_ | refine ae rfl (cr rfl rfl rfl (by first | exact ct _ | exact rfl) (by omega)) ?_ | refine ae rfl (bf rfl rfl rfl (by omega) (bm (by assumption)) (Enc.len _)) ?_
        first | refine ae rfl (bg rfl rfl rfl) ?_ | refine ae rfl (bi rfl rfl) ?_
        try dsimp only [St.put]
        first | refine aa rfl (aw rfl rfl) ?_ | refine aa rfl (ah rfl rfl (Enc.len _)) ?_ | refine aa rfl (ah rfl rfl rfl) ?_ | refine aa rfl (a7 rfl rfl zG trivial (by first | rfl | assumption)) ?_ | refine aa rfl (az rfl rfl zG trivial (by rfl)) ?_ | refine aa rfl (a8 rfl rfl zG trivial (by simp)) ?_ | refine aa rfl (ai rfl rfl zG trivial (ay (by assumption) rfl)) ?_ | refine aa rfl (ai rfl rfl zG trivial (by assumption)) ?_ | refine aa rfl (a9 rfl rfl zG trivial rfl (by assumption) rfl (by decide)) ?_ | refine aa rfl (ba rfl rfl zG (by rfl)) ?_
        first | refine ae rfl (bj rfl rfl (List.length_map _)) ?_ | refine ae rfl (bj rfl rfl rfl) ?_ | refine ae rfl (b8 rfl rfl) ?_ | refine ae rfl (cd rfl rfl) ?_ | refine ae rfl (cb rfl rfl) ?_ | refine ae rfl (ca rfl rfl (by omega)) ?_
        refine ae rfl (cj rfl rfl rfl) ?_
        refine am ?_
        dsimp only [St.put]
        refine hK24 _ ?_
        refine bl rfl (fun hc => ?_) (fun hc => ?_)
        ·replace hc := of_decide_eq_true hc
         obtain ⟨l, hn⟩ : ∃ y, x.lines[m]? = some y := cm (by omega)
         refine bn ?_
         refine hK23 _ ?_
         refine aj fun K25 hK25 => ?_
         refine bq ?_
         refine aj fun K26 hK26 => ?_
         refine aq ?_
         try dsimp only [St.put]
         first | refine aa rfl (aw rfl rfl) ?_ | refine aa rfl (ah rfl rfl (Enc.len _)) ?_ | refine aa rfl (ah rfl rfl rfl) ?_ | refine aa rfl (a7 rfl rfl zG trivial (by first | rfl | assumption)) ?_ | refine aa rfl (az rfl rfl zG trivial (by rfl)) ?_ | refine aa rfl (a8 rfl rfl zG trivial (by simp)) ?_ | refine aa rfl (ai rfl rfl zG trivial (ay (by assumption) rfl)) ?_ | refine aa rfl (ai rfl rfl zG trivial (by assumption)) ?_ | refine aa rfl (a9 rfl rfl zG trivial rfl (by assumption) rfl (by decide)) ?_ | refine aa rfl (ba rfl rfl zG (by rfl)) ?_
         try dsimp only [St.put]
         first | refine aa rfl (aw rfl rfl) ?_ | refine aa rfl (ah rfl rfl (Enc.len _)) ?_ | refine aa rfl (ah rfl rfl rfl) ?_ | refine aa rfl (a7 rfl rfl zG trivial (by first | rfl | assumption)) ?_ | refine aa rfl (az rfl rfl zG trivial (by rfl)) ?_ | refine aa rfl (a8 rfl rfl zG trivial (by simp)) ?_ | refine aa rfl (ai rfl rfl zG trivial (ay (by assumption) rfl)) ?_ | refine aa rfl (ai rfl rfl zG trivial (by assumption)) ?_ | refine aa rfl (a9 rfl rfl zG trivial rfl (by assumption) rfl (by decide)) ?_ | refine aa rfl (ba rfl rfl zG (by rfl)) ?_
         refine ae rfl (ar rfl (by constructor)) ?_
         refine ae rfl (ar rfl (by constructor)) ?_
         try dsimp only [St.put]
         refine av rfl (br rfl rfl rfl (uu t c j m x l ht hl20 hk hn) ?_)
         first | refine ae rfl (bj rfl rfl (List.length_map _)) ?_ | refine ae rfl (bj rfl rfl rfl) ?_ | refine ae rfl (b8 rfl rfl) ?_ | refine ae rfl (cd rfl rfl) ?_ | refine ae rfl (cb rfl rfl) ?_ | refine ae rfl (ca rfl rfl (by omega)) ?_
         try dsimp only [St.put]
         refine av rfl (br rfl rfl rfl (jd _ _ _) ?_)
         refine ae rfl (dt rfl rfl) ?_
         refine am ?_
         dsimp only [St.put]
         refine hK26 _ ?_
         refine bl rfl (fun hc => ?_) (fun hc => ?_)
         ·have hin : inB (gz c.rs (j : Int) (m : Int) l).length 1 10 = false := by simpa using hc
          have hln : lnB (ef c.rs j x) = false := by unfold lnB; exact gu (nz hn) hin
          refine aj fun K27 hK27 => ?_
          refine aq ?_
          refine ae rfl (ax rfl (by constructor)) ?_
          refine am ?_
          dsimp only [St.put]
          refine hK27 _ ?_
          refine bk ?_
          refine bo rfl (by constructor) zN zS ?_
          exact vb (yc (by rw [uce]; exact gu hy hln)).symm
         ·have hin : inB (gz c.rs (j : Int) (m : Int) l).length 1 10 = true := by simpa using hc
          refine bn ?_
          refine hK25 _ ?_
          refine aq ?_
          refine ae rfl (ar rfl (by constructor)) ?_
          first | refine ae rfl (bx rfl rfl rfl (by omega)) ?_ | refine ae rfl (cp rfl rfl rfl) ?_
          refine ae rfl (ax rfl (by constructor)) ?_
          refine am ?_
          dsimp only [St.put]
          exact ⟨m + 1, by omega, ⟨by omega, by rw [ucb hn, hM.2, hin]; rfl⟩, ⟨⟨rfl, rfl⟩, zF, zB, zN, zX⟩⟩
        ·try replace hc := of_decide_eq_false hc
         refine co ?_
         refine hK21 _ ?_
         refine aq ?_
         refine ae rfl (ar rfl (by constructor)) ?_
         first | refine ae rfl (bx rfl rfl rfl (by omega)) ?_ | refine ae rfl (cp rfl rfl rfl) ?_
         refine ae rfl (ax rfl (by constructor)) ?_
         refine am ?_
         dsimp only [St.put]
         exact ⟨j + 1, by omega, ⟨by omega, by
          rw [ja hy, hJ.2, Bool.true_and]
          have := hM.2
          rw [dd (show (ef c.rs j x).lines.length ≤ m by rw [pi]; omega)] at this
          exact this⟩, ⟨⟨rfl, rfl⟩, zF, zB, zN, zX⟩⟩
      ·replace hc := of_decide_eq_false hc
       refine co ?_
       refine hK17 _ ?_
       refine aj fun K28 hK28 => ?_
       refine aq ?_
       refine ae rfl (ax rfl (by constructor)) ?_
       refine am ?_
       dsimp only [St.put]
       refine hK28 _ ?_
       refine bk ?_
       refine bo rfl (by constructor) zN zS ?_
       exact vb (by
        have h2 := hJ.2
        rw [dd (by omega)] at h2
        exact (copyB_true.2 ⟨h1, hl20, hv, h2⟩).symm)
theorem pf (t : bd) (c : CopyD) : Pure Tryd.prog 15 [dn t, val c] (.v (.int .i64 (ec t c))) := by
 refine cx Tryd.func15 rfl (fun m => .v) fun G nx => ?_
 simp only [Tryd.ntmps15, List.length_cons, List.length_nil, Nat.reduceAdd, Nat.reduceSub]
 refine b9 fun hlt => ?_
 dsimp only at hlt
 refine aj fun K1 hK1 => ?_
 refine aq ?_
 try dsimp only [St.put]
 refine av rfl (cw rfl rfl (by simp) ?_)
 try dsimp only [St.put]
 refine av rfl (cw rfl rfl (by simp) ?_)
 refine ae rfl (ax rfl (by constructor)) ?_
 refine am ?_
 dsimp only [St.put]
 refine hK1 _ ?_
 refine aj fun K2 hK2 => ?_
 refine aj fun K3 hK3 => ?_
 refine aq ?_
 try dsimp only [St.put]
 first | refine aa rfl (aw rfl rfl) ?_ | refine aa rfl (ah rfl rfl (Enc.len _)) ?_ | refine aa rfl (ah rfl rfl rfl) ?_ | refine aa rfl (a7 rfl rfl zG trivial (by first | rfl | assumption)) ?_ | refine aa rfl (az rfl rfl zG trivial (by rfl)) ?_ | refine aa rfl (a8 rfl rfl zG trivial (by simp)) ?_ | refine aa rfl (ai rfl rfl zG trivial (ay (by assumption) rfl)) ?_ | refine aa rfl (ai rfl rfl zG trivial (by assumption)) ?_ | refine aa rfl (a9 rfl rfl zG trivial rfl (by assumption) rfl (by decide)) ?_ | refine aa rfl (ba rfl rfl zG (by rfl)) ?_
 try dsimp only [St.put]
 refine av rfl (br rfl rfl rfl (zd t) ?_)
 refine ae rfl (dt rfl rfl) ?_
 refine am ?_
 dsimp only [St.put]
 refine hK3 _ ?_
 refine bl rfl (fun hc => ?_) (fun hc => ?_)
 ·have htx : ck t = false := by simpa using hc
  refine aj fun K4 hK4 => ?_
  refine aq ?_
  refine ae rfl (ax rfl (by constructor)) ?_
  refine am ?_
  dsimp only [St.put]
  refine hK4 _ ?_
  refine bk ?_
  refine bo rfl (by constructor) zN zS ?_
  exact vi (by simp [ec, htx])
 ·have htx : ck t = true := by simpa using hc
  refine bn ?_
  refine hK2 _ ?_
  refine aj fun K5 hK5 => ?_
  refine aj fun K6 hK6 => ?_
  refine aq ?_
  try dsimp only [St.put]
  first | refine aa rfl (aw rfl rfl) ?_ | refine aa rfl (ah rfl rfl (Enc.len _)) ?_ | refine aa rfl (ah rfl rfl rfl) ?_ | refine aa rfl (a7 rfl rfl zG trivial (by first | rfl | assumption)) ?_ | refine aa rfl (az rfl rfl zG trivial (by rfl)) ?_ | refine aa rfl (a8 rfl rfl zG trivial (by simp)) ?_ | refine aa rfl (ai rfl rfl zG trivial (ay (by assumption) rfl)) ?_ | refine aa rfl (ai rfl rfl zG trivial (by assumption)) ?_ | refine aa rfl (a9 rfl rfl zG trivial rfl (by assumption) rfl (by decide)) ?_ | refine aa rfl (ba rfl rfl zG (by rfl)) ?_
  try dsimp only [St.put]
  first | refine aa rfl (aw rfl rfl) ?_ | refine aa rfl (ah rfl rfl (Enc.len _)) ?_ | refine aa rfl (ah rfl rfl rfl) ?_ | refine aa rfl (a7 rfl rfl zG trivial (by first | rfl | assumption)) ?_ | refine aa rfl (az rfl rfl zG trivial (by rfl)) ?_ | refine aa rfl (a8 rfl rfl zG trivial (by simp)) ?_ | refine aa rfl (ai rfl rfl zG trivial (ay (by assumption) rfl)) ?_ | refine aa rfl (ai rfl rfl zG trivial (by assumption)) ?_ | refine aa rfl (a9 rfl rfl zG trivial rfl (by assumption) rfl (by decide)) ?_ | refine aa rfl (ba rfl rfl zG (by rfl)) ?_
  try dsimp only [St.put]
  refine av rfl (br rfl rfl rfl (ux t c htx) ?_)
  refine ae rfl (dt rfl rfl) ?_
  refine am ?_
  dsimp only [St.put]
  refine hK6 _ ?_
  refine bl rfl (fun hc => ?_) (fun hc => ?_)
  ·have h1 : eo t c = false := by simpa using hc
   refine aj fun K7 hK7 => ?_
   refine aq ?_
   refine ae rfl (ax rfl (by constructor)) ?_
   refine am ?_
   dsimp only [St.put]
   refine hK7 _ ?_
   refine bk ?_
   refine bo rfl (by constructor) zN zS ?_
   exact vi (by simp [ec, htx, h1])
  ·have h1 : eo t c = true := by simpa using hc
   refine bn ?_
   refine hK5 _ ?_
   refine aj fun K8 hK8 => ?_
   refine aq ?_
   refine ae rfl (ax rfl (by constructor)) ?_
   refine am ?_
   dsimp only [St.put]
   refine hK8 _ ?_
   refine bk ?_
   refine bo rfl (by constructor) zN zS ?_
   exact vi (by simp [ec, htx, h1])
theorem ut (t : bd) (c : CopyD) : Pure Tryd.prog 9 [dn t, val c] (.tup [dn (gy t c), .v (.int .i64 (ec t c))]) := by
 refine cx Tryd.func9 rfl (fun m => .tup (cv (.agg (cv (ce _ _) de)) (cv .v de))) fun G nx => ?_
 simp only [Tryd.ntmps9, List.length_cons, List.length_nil, Nat.reduceAdd, Nat.reduceSub]
 refine b9 fun hlt => ?_
 dsimp only at hlt
 refine aj fun K1 hK1 => ?_
 refine aq ?_
 try dsimp only [St.put]
 refine av rfl (cw rfl rfl (by simp) ?_)
 try dsimp only [St.put]
 refine av rfl (cw rfl rfl (by simp) ?_)
 try dsimp only [St.put]
 refine av rfl (di rfl ?_)
 refine ae rfl (ax rfl (by constructor)) ?_
 refine am ?_
 dsimp only [St.put]
 refine hK1 _ ?_
 refine aj fun K2 hK2 => ?_
 refine aj fun K3 hK3 => ?_
 refine aq ?_
 try dsimp only [St.put]
 first | refine aa rfl (aw rfl rfl) ?_ | refine aa rfl (ah rfl rfl (Enc.len _)) ?_ | refine aa rfl (ah rfl rfl rfl) ?_ | refine aa rfl (a7 rfl rfl zG trivial (by first | rfl | assumption)) ?_ | refine aa rfl (az rfl rfl zG trivial (by rfl)) ?_ | refine aa rfl (a8 rfl rfl zG trivial (by simp)) ?_ | refine aa rfl (ai rfl rfl zG trivial (ay (by assumption) rfl)) ?_ | refine aa rfl (ai rfl rfl zG trivial (by assumption)) ?_ | refine aa rfl (a9 rfl rfl zG trivial rfl (by assumption) rfl (by decide)) ?_ | refine aa rfl (ba rfl rfl zG (by rfl)) ?_
 try dsimp only [St.put]
 first | refine aa rfl (aw rfl rfl) ?_ | refine aa rfl (ah rfl rfl (Enc.len _)) ?_ | refine aa rfl (ah rfl rfl rfl) ?_ | refine aa rfl (a7 rfl rfl zG trivial (by first | rfl | assumption)) ?_ | refine aa rfl (az rfl rfl zG trivial (by rfl)) ?_ | refine aa rfl (a8 rfl rfl zG trivial (by simp)) ?_ | refine aa rfl (ai rfl rfl zG trivial (ay (by assumption) rfl)) ?_ | refine aa rfl (ai rfl rfl zG trivial (by assumption)) ?_ | refine aa rfl (a9 rfl rfl zG trivial rfl (by assumption) rfl (by decide)) ?_ | refine aa rfl (ba rfl rfl zG (by rfl)) ?_
 try dsimp only [St.put]
 refine av rfl (br rfl rfl rfl (pf t c) ?_)
 refine ae rfl (ax rfl (by constructor)) ?_
 refine am ?_
 dsimp only [St.put]
 refine hK3 _ ?_
 refine aj fun K4 hK4 => ?_
 refine aq ?_
 refine ae rfl (ar rfl (by constructor)) ?_
 refine ae rfl (em rfl rfl rfl) ?_
 refine am ?_
 dsimp only [St.put]
 refine hK4 _ ?_
 refine bl rfl (fun hc => ?_) (fun hc => ?_)
 ·have h0 : ec t c ≠ 0 := gn hc
  refine aj fun K5 hK5 => ?_
  refine aq ?_
  refine ae rfl (jo rfl rfl) ?_
  refine ae rfl (ar rfl (by constructor)) ?_
  try dsimp only [St.put]
  first | refine av rfl (c8 rfl rfl rfl zG rfl rfl (by rfl) ?_) | refine av rfl (dh rfl rfl rfl zG (by constructor) rfl zO ?_)
  refine ae rfl (ax rfl (by constructor)) ?_
  refine am ?_
  dsimp only [St.put]
  refine hK5 _ ?_
  refine bk ?_
  refine i1 rfl (kj rfl zG (by rfl) zC rfl) (ed (by constructor)) zN zS ?_ ?_
  ·rw [show gy t c = [] by simp [gy, h0]]
   exact zW
  ·exact zW
 ·have h0 : ec t c = 0 := ff hc
  obtain ⟨ht, h2⟩ := copyEr_zero.1 h0
  obtain ⟨_, hl20, hv, _⟩ := copyB_true.1 h2
  obtain ⟨htx1, htx2, htx3⟩ := i3 ht
  have hrl := ny t c.rs
  refine bn ?_
  refine hK2 _ ?_
  refine aj fun K6 hK6 => ?_
  refine aq ?_
  try dsimp only [St.put]
  refine av rfl (di rfl ?_)
  refine am ?_
  dsimp only [St.put]
  refine hK6 _ ?_
  refine kz (nx + 1) 0 _ _ 55 2 zG rfl (by decide) ?_
  dsimp only [List.set_cons_zero, List.set_cons_succ]
  refine aj fun K7 hK7 => ?_
  refine aj fun K8 hK8 => ?_
  refine aq ?_
  refine ae rfl (ax rfl (by constructor)) ?_
  refine am ?_
  dsimp only [St.put]
  refine hK8 _ ?_
  refine bq ?_
  refine cg 11 ?_
  refine zQ ?_
  refine cn ((bc (bc (bc G nx (.box 0 [.list [] .nil])) (nx + 1) (.box 0 [.list (((c9 t c.rs).take 0).map cells) (.tip (nx + 1 + 1))])) (nx + 1 + 1) (.tip ((c9 t c.rs).take 0).length 55 2))) zX ?_
  dsimp only
  refine cz (X := Nat) (fun k => k ≤ t.length) (fun k => t.length - k) (fun k => [(8, .v (.int .i64 (k : Int))), (9, .any), (10, .any)]) (fun k G' => (bc (bc (bc G nx (.box 0 [.list [] .nil])) (nx + 1) (.box k [.list (((c9 t c.rs).take k).map cells) (.tip (nx + 1 + 1))])) (nx + 1 + 1) (.tip ((c9 t c.rs).take k).length 55 2))) 0 rfl ?_ ?_ ?_ ?_ ?_ ?_
  ·exact Nat.zero_le _
  ·exact zF
  ·exact zX
  ·rintro k hI
   exact zL
  ·rintro k hI
   exact zH
  ·rintro k hI
   dsimp only at hI ⊢
   refine aj fun K9 hK9 => ?_
   refine aj fun K10 hK10 => ?_
   refine aq ?_
   refine ae rfl (ar rfl (by constructor)) ?_
   first | refine ae rfl (bg rfl rfl rfl) ?_ | refine ae rfl (bi rfl rfl) ?_
   try dsimp only [St.put]
   first | refine aa rfl (aw rfl rfl) ?_ | refine aa rfl (ah rfl rfl (Enc.len _)) ?_ | refine aa rfl (ah rfl rfl rfl) ?_ | refine aa rfl (a7 rfl rfl zG trivial (by first | rfl | assumption)) ?_ | refine aa rfl (az rfl rfl zG trivial (by rfl)) ?_ | refine aa rfl (a8 rfl rfl zG trivial (by simp)) ?_ | refine aa rfl (ai rfl rfl zG trivial (ay (by assumption) rfl)) ?_ | refine aa rfl (ai rfl rfl zG trivial (by assumption)) ?_ | refine aa rfl (a9 rfl rfl zG trivial rfl (by assumption) rfl (by decide)) ?_ | refine aa rfl (ba rfl rfl zG (by rfl)) ?_
   first | refine ae rfl (bj rfl rfl (List.length_map _)) ?_ | refine ae rfl (bj rfl rfl rfl) ?_ | refine ae rfl (b8 rfl rfl) ?_ | refine ae rfl (cd rfl rfl) ?_ | refine ae rfl (cb rfl rfl) ?_ | refine ae rfl (ca rfl rfl (by omega)) ?_
   refine ae rfl (cj rfl rfl rfl) ?_
   refine am ?_
   dsimp only [St.put]
   refine hK10 _ ?_
   refine bl rfl (fun hc => ?_) (fun hc => ?_)
   ·replace hc := of_decide_eq_true hc
    obtain ⟨x, hk⟩ : ∃ x, t[k]? = some x := cm (by omega)
    have hy := ph (rs := c.rs) hk
    have hxl := htx3 x (dv hk)
    obtain ⟨Y, hY⟩ : ∃ Y, ef c.rs k x = Y := ⟨_, rfl⟩
    have hYl : Y.lines.length = x.lines.length := by rw [← hY]; exact pi _ _ _
    have hYi : Y.id = x.id := by rw [← hY]; rfl
    have hYg : ∀ (m : Nat) (l : List ByteArray), x.lines[m]? = some l → Y.lines[m]? = some (gz c.rs (k : Int) (m : Int) l) := fun m l h => by rw [← hY]; exact nz h
    rw [hY] at hy
    refine bn ?_
    refine hK9 _ ?_
    refine aj fun K11 hK11 => ?_
    refine bq ?_
    refine aj fun K12 hK12 => ?_
    refine aq ?_
    first | refine ae rfl (bg rfl rfl rfl) ?_ | refine ae rfl (bi rfl rfl) ?_
    try dsimp only [St.put]
    first | refine aa rfl (aw rfl rfl) ?_ | refine aa rfl (ah rfl rfl (Enc.len _)) ?_ | refine aa rfl (ah rfl rfl rfl) ?_ | refine aa rfl (a7 rfl rfl zG trivial (by first | rfl | assumption)) ?_ | refine aa rfl (az rfl rfl zG trivial (by rfl)) ?_ | refine aa rfl (a8 rfl rfl zG trivial (by simp)) ?_ | refine aa rfl (ai rfl rfl zG trivial (ay (by assumption) rfl)) ?_ | refine aa rfl (ai rfl rfl zG trivial (by assumption)) ?_ | refine aa rfl (a9 rfl rfl zG trivial rfl (by assumption) rfl (by decide)) ?_ | refine aa rfl (ba rfl rfl zG (by rfl)) ?_
    refine ae rfl (ar rfl (by constructor)) ?_
    try dsimp only [St.put]
    first | refine ae rfl (bf rfl rfl rfl rfl (bm (by assumption)) (Enc.len _)) ?_ | refine ae rfl (bf rfl rfl rfl rfl (by assumption) rfl) ?_ | refine ae rfl (cr rfl rfl rfl (by first | exact ct _ | exact rfl) (by omega)) ?_ | refine ae rfl (bf rfl rfl rfl (by omega) (bm (by assumption)) (Enc.len _)) ?_
    first | refine ae rfl (bg rfl rfl rfl) ?_ | refine ae rfl (bi rfl rfl) ?_
    try dsimp only [St.put]
    first | refine aa rfl (aw rfl rfl) ?_ | refine aa rfl (ah rfl rfl (Enc.len _)) ?_ | refine aa rfl (ah rfl rfl rfl) ?_ | refine aa rfl (a7 rfl rfl zG trivial (by first | rfl | assumption)) ?_ | refine aa rfl (az rfl rfl zG trivial (by rfl)) ?_ | refine aa rfl (a8 rfl rfl zG trivial (by simp)) ?_ | refine aa rfl (ai rfl rfl zG trivial (ay (by assumption) rfl)) ?_ | refine aa rfl (ai rfl rfl zG trivial (by assumption)) ?_ | refine aa rfl (a9 rfl rfl zG trivial rfl (by assumption) rfl (by decide)) ?_ | refine aa rfl (ba rfl rfl zG (by rfl)) ?_
    refine ae rfl (jo rfl rfl) ?_
    try dsimp only [St.put]
    refine av rfl (di rfl ?_)
    try dsimp only [St.put]
    first | refine av rfl (c8 rfl rfl rfl zG rfl rfl (by rfl) ?_) | refine av rfl (dh rfl rfl rfl zG (by constructor) rfl zO ?_)
    refine am ?_
    dsimp only [St.put]
    refine hK12 _ ?_
    refine kz (nx + 1 + 1 + 1) 1 _ _ 56 1 zG rfl (by decide) ?_
    dsimp only [List.set_cons_zero, List.set_cons_succ]
    refine aj fun K13 hK13 => ?_
    refine aj fun K14 hK14 => ?_
    refine aq ?_
    refine ae rfl (ax rfl (by constructor)) ?_
    refine am ?_
    dsimp only [St.put]
    refine hK14 _ ?_
    refine bq ?_
    refine cg 11 ?_
    refine zQ ?_
    refine cn ((bc (bc (bc (bc (bc G nx (.box 0 [.list [] .nil])) (nx + 1) (.box k [.list (((c9 t c.rs).take k).map cells) (.tip (nx + 1 + 1))])) (nx + 1 + 1) (.tip ((c9 t c.rs).take k).length 55 2)) (nx + 1 + 1 + 1) (.box (0 + 1) [.v (.int .i64 x.id), .list ((Y.lines.take 0).map cells) (.tip (nx + 1 + 1 + 1 + 1))])) (nx + 1 + 1 + 1 + 1) (.tip (Y.lines.take 0).length 56 1))) zX ?_
    dsimp only
    refine cz (X := Nat) (fun m => m ≤ x.lines.length) (fun m => x.lines.length - m) (fun m => [(10, .v (.int .i64 (m : Int)))]) (fun m G' => (bc (bc (bc (bc (bc G nx (.box 0 [.list [] .nil])) (nx + 1) (.box k [.list (((c9 t c.rs).take k).map cells) (.tip (nx + 1 + 1))])) (nx + 1 + 1) (.tip ((c9 t c.rs).take k).length 55 2)) (nx + 1 + 1 + 1) (.box (m + 1) [.v (.int .i64 x.id), .list ((Y.lines.take m).map cells) (.tip (nx + 1 + 1 + 1 + 1))])) (nx + 1 + 1 + 1 + 1) (.tip (Y.lines.take m).length 56 1))) 0 rfl ?_ ?_ ?_ ?_ ?_ ?_
    ·exact Nat.zero_le _
    ·exact zF
    ·exact zX
    ·rintro m hI
     exact zL
    ·rintro m hI
     exact zH
    ·rintro m hJ
     dsimp only at hJ ⊢
     refine aj fun K15 hK15 => ?_
     refine aj fun K16 hK16 => ?_
     refine aq ?_
     refine ae rfl (ar rfl (by constructor)) ?_
     first | refine ae rfl (bg rfl rfl rfl) ?_ | refine ae rfl (bi rfl rfl) ?_
     try dsimp only [St.put]
     first | refine aa rfl (aw rfl rfl) ?_ | refine aa rfl (ah rfl rfl (Enc.len _)) ?_ | refine aa rfl (ah rfl rfl rfl) ?_ | refine aa rfl (a7 rfl rfl zG trivial (by first | rfl | assumption)) ?_ | refine aa rfl (az rfl rfl zG trivial (by rfl)) ?_ | refine aa rfl (a8 rfl rfl zG trivial (by simp)) ?_ | refine aa rfl (ai rfl rfl zG trivial (ay (by assumption) rfl)) ?_ | refine aa rfl (ai rfl rfl zG trivial (by assumption)) ?_ | refine aa rfl (a9 rfl rfl zG trivial rfl (by assumption) rfl (by decide)) ?_ | refine aa rfl (ba rfl rfl zG (by rfl)) ?_
     refine ae rfl (ar rfl (by constructor)) ?_
     try dsimp only [St.put]
     first | refine ae rfl (bf rfl rfl rfl rfl (bm (by assumption)) (Enc.len _)) ?_ | refine ae rfl (bf rfl rfl rfl rfl (by assumption) rfl) ?_ | refine ae rfl (cr rfl rfl rfl (by first | exact ct _ | exact rfl) (by omega)) ?_ | refine ae rfl (bf rfl rfl rfl (by omega) (bm (by assumption)) (Enc.len _)) ?_
     first | refine ae rfl (bg rfl rfl rfl) ?_ | refine ae rfl (bi rfl rfl) ?_
     try dsimp only [St.put]
     first | refine aa rfl (aw rfl rfl) ?_ | refine aa rfl (ah rfl rfl (Enc.len _)) ?_ | refine aa rfl (ah rfl rfl rfl) ?_ | refine aa rfl (a7 rfl rfl zG trivial (by first | rfl | assumption)) ?_ | refine aa rfl (az rfl rfl zG trivial (by rfl)) ?_ | refine aa rfl (a8 rfl rfl zG trivial (by simp)) ?_ | refine aa rfl (ai rfl rfl zG trivial (ay (by assumption) rfl)) ?_ | refine aa rfl (ai rfl rfl zG trivial (by assumption)) ?_ | refine aa rfl (a9 rfl rfl zG trivial rfl (by assumption) rfl (by decide)) ?_ | refine aa rfl (ba rfl rfl zG (by rfl)) ?_
     first | refine ae rfl (bj rfl rfl (List.length_map _)) ?_ | refine ae rfl (bj rfl rfl rfl) ?_ | refine ae rfl (b8 rfl rfl) ?_ | refine ae rfl (cd rfl rfl) ?_ | refine ae rfl (cb rfl rfl) ?_ | refine ae rfl (ca rfl rfl (by omega)) ?_
     refine ae rfl (cj rfl rfl rfl) ?_
     refine am ?_
     dsimp only [St.put]
     refine hK16 _ ?_
     refine bl rfl (fun hc => ?_) (fun hc => ?_)
     ·replace hc := of_decide_eq_true hc
      obtain ⟨l, hn⟩ : ∃ y, x.lines[m]? = some y := cm (by omega)
      have hz := hYg m l hn
      refine bn ?_
      refine hK15 _ ?_
      refine aj fun K17 hK17 => ?_
      refine bq ?_
      refine fw [(0, none), (1, none), (2, none), (3, none), (4, none), (5, none), (6, none), (7, none), (8, none), (9, none), (10, none)] (fun i => [8, 10].contains i) (fun i => [6, 7, 8, 10].contains i) (fun i => [0, 4, 5, 9].contains i) [nx + 1 + 1 + 1] (by kernel_rfl) (by kernel_rfl) ?_
      first | refine ak rfl rfl rfl rfl (bg rfl rfl rfl) ?_ | refine ak rfl rfl rfl rfl (bi rfl rfl) ?_
      try dsimp only [St.put]
      first | refine af rfl rfl rfl rfl (aw rfl rfl) ?_ | refine af rfl rfl rfl rfl (ah rfl rfl (Enc.len _)) ?_ | refine af rfl rfl rfl rfl (ah rfl rfl rfl) ?_ | refine af rfl rfl rfl rfl (a7 rfl rfl zG (by simp) (by first | rfl | assumption)) ?_ | refine af rfl rfl rfl rfl (az rfl rfl zG (by simp) (by rfl)) ?_ | refine af rfl rfl rfl rfl (a8 rfl rfl zG (by simp) (by simp)) ?_ | refine af rfl rfl rfl rfl (ai rfl rfl zG (by simp) (ay (by assumption) rfl)) ?_ | refine af rfl rfl rfl rfl (ai rfl rfl zG (by simp) (by assumption)) ?_ | refine af rfl rfl rfl rfl (a9 rfl rfl zG (by simp) rfl (by assumption) rfl (by decide)) ?_ | refine af rfl rfl rfl rfl (ba rfl rfl zG (by rfl)) ?_
      try dsimp only [St.put]
      first | refine af rfl rfl rfl rfl (aw rfl rfl) ?_ | refine af rfl rfl rfl rfl (ah rfl rfl (Enc.len _)) ?_ | refine af rfl rfl rfl rfl (ah rfl rfl rfl) ?_ | refine af rfl rfl rfl rfl (a7 rfl rfl zG (by simp) (by first | rfl | assumption)) ?_ | refine af rfl rfl rfl rfl (az rfl rfl zG (by simp) (by rfl)) ?_ | refine af rfl rfl rfl rfl (a8 rfl rfl zG (by simp) (by simp)) ?_ | refine af rfl rfl rfl rfl (ai rfl rfl zG (by simp) (ay (by assumption) rfl)) ?_ | refine af rfl rfl rfl rfl (ai rfl rfl zG (by simp) (by assumption)) ?_ | refine af rfl rfl rfl rfl (a9 rfl rfl zG (by simp) rfl (by assumption) rfl (by decide)) ?_ | refine af rfl rfl rfl rfl (ba rfl rfl zG (by rfl)) ?_
      try dsimp only [St.put]
      first | refine af rfl rfl rfl rfl (aw rfl rfl) ?_ | refine af rfl rfl rfl rfl (ah rfl rfl (Enc.len _)) ?_ | refine af rfl rfl rfl rfl (ah rfl rfl rfl) ?_ | refine af rfl rfl rfl rfl (a7 rfl rfl zG (by simp) (by first | rfl | assumption)) ?_ | refine af rfl rfl rfl rfl (az rfl rfl zG (by simp) (by rfl)) ?_ | refine af rfl rfl rfl rfl (a8 rfl rfl zG (by simp) (by simp)) ?_ | refine af rfl rfl rfl rfl (ai rfl rfl zG (by simp) (ay (by assumption) rfl)) ?_ | refine af rfl rfl rfl rfl (ai rfl rfl zG (by simp) (by assumption)) ?_ | refine af rfl rfl rfl rfl (a9 rfl rfl zG (by simp) rfl (by assumption) rfl (by decide)) ?_ | refine af rfl rfl rfl rfl (ba rfl rfl zG (by rfl)) ?_
      refine ak rfl rfl rfl rfl (ar rfl (by constructor)) ?_
      refine ak rfl rfl rfl rfl (ar rfl (by constructor)) ?_
      refine ie ?_
      try dsimp only [St.put]
      refine ge rfl rfl rfl (br rfl rfl rfl (uu t c k m x l ht hl20 hk hn) ⟨zD, ?_⟩)
      try dsimp only [St.put]
      refine ge rfl rfl rfl (dx rfl rfl rfl (by decide) (by decide) zR (by decide) ⟨zD, ?_⟩)
      try dsimp only [St.put]
      refine ez rfl rfl rfl rfl (gr ([gz c.rs (k : Int) (m : Int) l]) rfl rfl zG zE rfl rfl zA ?_ zA)
      first | refine c0 rfl rfl rfl rfl (bg rfl rfl rfl) ?_ | refine c0 rfl rfl rfl rfl (bi rfl rfl) ?_
      try dsimp only [St.put]
      first | refine ez rfl rfl rfl rfl (c8 rfl rfl rfl zG rfl rfl (by rfl) ?_) | refine ez rfl rfl rfl rfl (dh rfl rfl rfl zG (by constructor) rfl zO ?_)
      refine ib ?_
      dsimp only [St.put]
      refine hK17 _ ?_
      refine aq ?_
      refine ae rfl (ar rfl (by constructor)) ?_
      first | refine ae rfl (bx rfl rfl rfl (by omega)) ?_ | refine ae rfl (cp rfl rfl rfl) ?_
      refine ae rfl (ax rfl (by constructor)) ?_
      refine am ?_
      dsimp only [St.put]
      simp only [jn hz]
      exact ⟨m + 1, by omega, by omega, ⟨⟨rfl, rfl⟩, zF, zB, zN, zX⟩⟩
     ·replace hc := of_decide_eq_false hc
      rw [dd (show Y.lines.length ≤ m by omega), ← hYi]
      refine qv (nx + 1 + 1 + 1) _ [.v (.int .i64 Y.id), lst Y.lines] zG zW ?_
      refine co ?_
      refine hK13 _ ?_
      refine aq ?_
      first | refine ae rfl (bg rfl rfl rfl) ?_ | refine ae rfl (bi rfl rfl) ?_
      try dsimp only [St.put]
      first | refine aa rfl (aw rfl rfl) ?_ | refine aa rfl (ah rfl rfl (Enc.len _)) ?_ | refine aa rfl (ah rfl rfl rfl) ?_ | refine aa rfl (a7 rfl rfl zG trivial (by first | rfl | assumption)) ?_ | refine aa rfl (az rfl rfl zG trivial (by rfl)) ?_ | refine aa rfl (a8 rfl rfl zG trivial (by simp)) ?_ | refine aa rfl (ai rfl rfl zG trivial (ay (by assumption) rfl)) ?_ | refine aa rfl (ai rfl rfl zG trivial (by assumption)) ?_ | refine aa rfl (a9 rfl rfl zG trivial rfl (by assumption) rfl (by decide)) ?_ | refine aa rfl (ba rfl rfl zG (by rfl)) ?_
      try dsimp only [St.put]
      first | refine aa rfl (aw rfl rfl) ?_ | refine aa rfl (ah rfl rfl (Enc.len _)) ?_ | refine aa rfl (ah rfl rfl rfl) ?_ | refine aa rfl (a7 rfl rfl zG trivial (by first | rfl | assumption)) ?_ | refine aa rfl (az rfl rfl zG trivial (by rfl)) ?_ | refine aa rfl (a8 rfl rfl zG trivial (by simp)) ?_ | refine aa rfl (ai rfl rfl zG trivial (ay (by assumption) rfl)) ?_ | refine aa rfl (ai rfl rfl zG trivial (by assumption)) ?_ | refine aa rfl (a9 rfl rfl zG trivial rfl (by assumption) rfl (by decide)) ?_ | refine aa rfl (ba rfl rfl zG (by rfl)) ?_
      try dsimp only [St.put]
      refine av rfl (dx rfl rfl rfl (by decide) (by decide) zR (by decide) ?_)
      try dsimp only [St.put]
      refine av rfl (gr ([Y]) rfl rfl zG zE rfl rfl zA ?_ zA)
      first | refine ae rfl (bg rfl rfl rfl) ?_ | refine ae rfl (bi rfl rfl) ?_
      try dsimp only [St.put]
      first | refine av rfl (c8 rfl rfl rfl zG rfl rfl (by rfl) ?_) | refine av rfl (dh rfl rfl rfl zG (by constructor) rfl zO ?_)
      refine am ?_
      dsimp only [St.put]
      refine hK11 _ ?_
      refine aq ?_
      refine ae rfl (ar rfl (by constructor)) ?_
      first | refine ae rfl (bx rfl rfl rfl (by omega)) ?_ | refine ae rfl (cp rfl rfl rfl) ?_
      refine ae rfl (ax rfl (by constructor)) ?_
      refine am ?_
      dsimp only [St.put]
      simp only [jn hy]
      exact ⟨k + 1, by omega, by omega, ⟨⟨rfl, rfl⟩, zF, zB, zN, zX⟩⟩
   ·try replace hc := of_decide_eq_false hc
    refine co ?_
    refine hK7 _ ?_
    refine aj fun K18 hK18 => ?_
    refine aq ?_
    try dsimp only [St.put]
    first | refine aa rfl (aw rfl rfl) ?_ | refine aa rfl (ah rfl rfl (Enc.len _)) ?_ | refine aa rfl (ah rfl rfl rfl) ?_ | refine aa rfl (a7 rfl rfl zG trivial (by first | rfl | assumption)) ?_ | refine aa rfl (az rfl rfl zG trivial (by rfl)) ?_ | refine aa rfl (a8 rfl rfl zG trivial (by simp)) ?_ | refine aa rfl (ai rfl rfl zG trivial (ay (by assumption) rfl)) ?_ | refine aa rfl (ai rfl rfl zG trivial (by assumption)) ?_ | refine aa rfl (a9 rfl rfl zG trivial rfl (by assumption) rfl (by decide)) ?_ | refine aa rfl (ba rfl rfl zG (by rfl)) ?_
    try dsimp only [St.put]
    first | refine av rfl (c8 rfl rfl rfl zG rfl rfl (by rfl) ?_) | refine av rfl (dh rfl rfl rfl zG (by constructor) rfl zO ?_)
    refine ae rfl (ax rfl (by constructor)) ?_
    refine am ?_
    dsimp only [St.put]
    refine hK18 _ ?_
    refine bk ?_
    refine i1 rfl (kj rfl zG (by rfl) zC rfl) (ed (by constructor)) zN zS ?_ ?_
    ·rw [show gy t c = c9 t c.rs by simp [gy, h0], dd (show (c9 t c.rs).length ≤ k by omega)]
     exact zW
    ·exact Wk.of_eq (vi h0.symm)
end Go.Proofs.YthboenlglkmnjaaDoor
namespace Go.Proofs.YthboenlglkmnjaaDoor
set_option maxRecDepth 10000
open Go.RowKit Go.AB
open Go.AB.Enc (cells)
open Go.PB (Chap bd PlaceD bh CopyD bw)
theorem ur (t : bd) (c : CopyD) (p : PlaceD) (ht : ck t = true) (hp : fp t p = true) : Pure Tryd.prog 25 [dn t, val c, val p] (.v (.string (il c.rs p (ii t p)))) := by
 refine cx Tryd.func25 rfl (fun m => .v) fun G nx => ?_
 simp only [Tryd.ntmps25, List.length_cons, List.length_nil, Nat.reduceAdd, Nat.reduceSub]
 refine b9 fun hlt => ?_
 dsimp only at hlt
 refine fj 1 (fun hf => ?_)
 have hf1 := (fit_lst.1 (fit_agg.1 hf _ (by exact List.mem_cons_of_mem _ (List.mem_cons_self ..)))).1
 refine aj fun K1 hK1 => ?_
 refine aq ?_
 try dsimp only [St.put]
 refine av rfl (cw rfl rfl (by simp) ?_)
 try dsimp only [St.put]
 refine av rfl (cw rfl rfl (by simp) ?_)
 try dsimp only [St.put]
 refine av rfl (cw rfl rfl (by simp) ?_)
 refine ae rfl (ax rfl (by constructor)) ?_
 refine am ?_
 dsimp only [St.put]
 refine hK1 _ ?_
 refine aj fun K2 hK2 => ?_
 refine aj fun K3 hK3 => ?_
 refine aq ?_
 refine ae rfl (ax rfl (by constructor)) ?_
 refine am ?_
 dsimp only [St.put]
 refine hK3 _ ?_
 refine bq ?_
 refine cg 9 ?_
 refine zQ ?_
 refine cn (G) zX ?_
 dsimp only
 refine cz (X := Nat) (fun k => k ≤ c.rs.length ∧ ∀ r ∈ c.rs.take k, ¬ (r.pl = p ∧ r.kind ≠ 2)) (fun k => c.rs.length - k) (fun k => [(7, .v (.int .i64 (k : Int))), (8, .any)]) (fun k G' => G') 0 rfl ?_ ?_ (fun _ _ h => h) ?_ ?_ ?_
 ·exact ⟨Nat.zero_le _, by simp⟩
 ·exact zF
 ·rintro k hI
  exact zL
 ·exact fun _ _ _ _ h => .inl h
 ·rintro k hI
  dsimp only at hI ⊢
  refine aj fun K4 hK4 => ?_
  refine aj fun K5 hK5 => ?_
  refine aq ?_
  refine ae rfl (ar rfl (by constructor)) ?_
  first | refine ae rfl (bg rfl rfl rfl) ?_ | refine ae rfl (bi rfl rfl) ?_
  try dsimp only [St.put]
  first | refine aa rfl (aw rfl rfl) ?_ | refine aa rfl (ah rfl rfl (Enc.len _)) ?_ | refine aa rfl (ah rfl rfl rfl) ?_ | refine aa rfl (a7 rfl rfl zG trivial (by first | rfl | assumption)) ?_ | refine aa rfl (az rfl rfl zG trivial (by rfl)) ?_ | refine aa rfl (a8 rfl rfl zG trivial (by simp)) ?_ | refine aa rfl (ai rfl rfl zG trivial (ay (by assumption) rfl)) ?_ | refine aa rfl (ai rfl rfl zG trivial (by assumption)) ?_ | refine aa rfl (a9 rfl rfl zG trivial rfl (by assumption) rfl (by decide)) ?_ | refine aa rfl (ba rfl rfl zG (by rfl)) ?_
  first | refine ae rfl (bj rfl rfl (List.length_map _)) ?_ | refine ae rfl (bj rfl rfl rfl) ?_ | refine ae rfl (b8 rfl rfl) ?_ | refine ae rfl (cd rfl rfl) ?_ | refine ae rfl (cb rfl rfl) ?_ | refine ae rfl (ca rfl rfl (by omega)) ?_
  refine ae rfl (cj rfl rfl rfl) ?_
  refine am ?_
  dsimp only [St.put]
  refine hK5 _ ?_
  refine bl rfl (fun hc => ?_) (fun hc => ?_)
  ·replace hc := of_decide_eq_true hc
   obtain ⟨r, hr⟩ : ∃ x, c.rs[k]? = some x := cm (by omega)
   refine bn ?_
   refine hK4 _ ?_
   refine aj fun K6 hK6 => ?_
   refine bq ?_
   refine aj fun K7 hK7 => ?_
   refine aq ?_
   first | refine ae rfl (bg rfl rfl rfl) ?_ | refine ae rfl (bi rfl rfl) ?_
   try dsimp only [St.put]
   first | refine aa rfl (aw rfl rfl) ?_ | refine aa rfl (ah rfl rfl (Enc.len _)) ?_ | refine aa rfl (ah rfl rfl rfl) ?_ | refine aa rfl (a7 rfl rfl zG trivial (by first | rfl | assumption)) ?_ | refine aa rfl (az rfl rfl zG trivial (by rfl)) ?_ | refine aa rfl (a8 rfl rfl zG trivial (by simp)) ?_ | refine aa rfl (ai rfl rfl zG trivial (ay (by assumption) rfl)) ?_ | refine aa rfl (ai rfl rfl zG trivial (by assumption)) ?_ | refine aa rfl (a9 rfl rfl zG trivial rfl (by assumption) rfl (by decide)) ?_ | refine aa rfl (ba rfl rfl zG (by rfl)) ?_
   refine ae rfl (ar rfl (by constructor)) ?_
   try dsimp only [St.put]
   first | refine ae rfl (bf rfl rfl rfl rfl (bm (by assumption)) (Enc.len _)) ?_ | refine ae rfl (bf rfl rfl rfl rfl (by assumption) rfl) ?_ | refine ae rfl (cr rfl rfl rfl (by first | exact ct _ | exact rfl) (by omega)) ?_ | refine ae rfl (bf rfl rfl rfl (by omega) (bm (by assumption)) (Enc.len _)) ?_
   try dsimp only [St.put]
   first | refine aa rfl (aw rfl rfl) ?_ | refine aa rfl (ah rfl rfl (Enc.len _)) ?_ | refine aa rfl (ah rfl rfl rfl) ?_ | refine aa rfl (a7 rfl rfl zG trivial (by first | rfl | assumption)) ?_ | refine aa rfl (az rfl rfl zG trivial (by rfl)) ?_ | refine aa rfl (a8 rfl rfl zG trivial (by simp)) ?_ | refine aa rfl (ai rfl rfl zG trivial (ay (by assumption) rfl)) ?_ | refine aa rfl (ai rfl rfl zG trivial (by assumption)) ?_ | refine aa rfl (a9 rfl rfl zG trivial rfl (by assumption) rfl (by decide)) ?_ | refine aa rfl (ba rfl rfl zG (by rfl)) ?_
   try dsimp only [St.put]
   refine av rfl (di rfl ?_)
   try dsimp only [St.put]
   first | refine av rfl (c8 rfl rfl rfl zG rfl rfl (by rfl) ?_) | refine av rfl (dh rfl rfl rfl zG (by constructor) rfl zO ?_)
   refine am ?_
   dsimp only [St.put]
   refine hK7 _ ?_
   refine ep (i := 8) rfl zG zC ?_
   dsimp only
   refine cg 9 ?_
   refine zQ ?_
   refine ky (X := Bool) (fun b => (b = true → r.pl = p ∧ r.kind ≠ 2) ∧ (b = false → ¬ (r.pl = p ∧ r.kind ≠ 2))) (fun b => [(29, .v (.bool b))]) (fun b G' => G') rfl ?_ (fun _ _ _ _ h => .inl h) ?_ ?_
   ·rintro b hI
    exact zL
   ·refine aq ?_
    first | refine ae rfl (bg rfl rfl rfl) ?_ | refine ae rfl (bi rfl rfl) ?_
    try dsimp only [St.put]
    refine aa rfl (c := val r.pl) (io (cs := cells r) rfl rfl (show 3 ≤ 5 by decide)) ?_
    try dsimp only [St.put]
    first | refine aa rfl (aw rfl rfl) ?_ | refine aa rfl (ah rfl rfl (Enc.len _)) ?_ | refine aa rfl (ah rfl rfl rfl) ?_ | refine aa rfl (a7 rfl rfl zG trivial (by first | rfl | assumption)) ?_ | refine aa rfl (az rfl rfl zG trivial (by rfl)) ?_ | refine aa rfl (a8 rfl rfl zG trivial (by simp)) ?_ | refine aa rfl (ai rfl rfl zG trivial (ay (by assumption) rfl)) ?_ | refine aa rfl (ai rfl rfl zG trivial (by assumption)) ?_ | refine aa rfl (a9 rfl rfl zG trivial rfl (by assumption) rfl (by decide)) ?_ | refine aa rfl (ba rfl rfl zG (by rfl)) ?_
    refine ae rfl (sd (x := r.pl) (y := p) rfl rfl rfl) ?_
    refine ae rfl (ar rfl (by constructor)) ?_
    refine et (fun hs => ?_) (fun hs => ?_)
    ·have s3 := of_decide_eq_true hs
     first | refine ae rfl (bg rfl rfl rfl) ?_ | refine ae rfl (bi rfl rfl) ?_
     try dsimp only [St.put]
     first | refine aa rfl (aw rfl rfl) ?_ | refine aa rfl (ah rfl rfl (Enc.len _)) ?_ | refine aa rfl (ah rfl rfl rfl) ?_ | refine aa rfl (a7 rfl rfl zG trivial (by first | rfl | assumption)) ?_ | refine aa rfl (az rfl rfl zG trivial (by rfl)) ?_ | refine aa rfl (a8 rfl rfl zG trivial (by simp)) ?_ | refine aa rfl (ai rfl rfl zG trivial (ay (by assumption) rfl)) ?_ | refine aa rfl (ai rfl rfl zG trivial (by assumption)) ?_ | refine aa rfl (a9 rfl rfl zG trivial rfl (by assumption) rfl (by decide)) ?_ | refine aa rfl (ba rfl rfl zG (by rfl)) ?_
     refine ae rfl (em rfl rfl rfl) ?_
     first | refine ae rfl (bt rfl rfl (by constructor)) ?_ | refine ae rfl (bu rfl rfl (by constructor)) ?_ | refine ae rfl (b7 rfl rfl rfl rfl) ?_ | refine ae rfl (bz rfl rfl rfl rfl) ?_
     refine am ?_
     dsimp only [St.put]
     refine ⟨_, ?_, ⟨⟨rfl, rfl⟩, zF, zB, zN, zX⟩⟩
     first
     | (have q : ¬ r.pl = p := s3
        exact ⟨fun h => absurd h (by decide), fun _ h => q h.1⟩)
     | (have q : r.pl = p := s3
        by_cases e : r.kind = 2
        ·simp [e]
        ·simp [e, q])
    ·have s3 := of_decide_eq_false hs
     refine bv rfl ?_
     refine bv rfl ?_
     refine bv rfl ?_
     first | refine ae rfl (bt rfl rfl (by constructor)) ?_ | refine ae rfl (bu rfl rfl (by constructor)) ?_ | refine ae rfl (b7 rfl rfl rfl rfl) ?_ | refine ae rfl (bz rfl rfl rfl rfl) ?_
     refine am ?_
     dsimp only [St.put]
     refine ⟨_, ?_, ⟨⟨rfl, rfl⟩, zF, zB, zN, zX⟩⟩
     first
     | (have q : ¬ r.pl = p := s3
        exact ⟨fun h => absurd h (by decide), fun _ h => q h.1⟩)
     | (have q : r.pl = p := s3
        by_cases e : r.kind = 2
        ·simp [e]
        ·simp [e, q])
   ·rintro b hst
    dsimp only at hst ⊢
    refine bl rfl (fun hc => ?_) (fun hc => ?_)
    ·obtain ⟨h1, h2⟩ := hst.1 hc
     refine aj fun K9 hK9 => ?_
     refine aq ?_
     first | refine ae rfl (bg rfl rfl rfl) ?_ | refine ae rfl (bi rfl rfl) ?_
     try dsimp only [St.put]
     first | refine aa rfl (aw rfl rfl) ?_ | refine aa rfl (ah rfl rfl (Enc.len _)) ?_ | refine aa rfl (ah rfl rfl rfl) ?_ | refine aa rfl (a7 rfl rfl zG trivial (by first | rfl | assumption)) ?_ | refine aa rfl (az rfl rfl zG trivial (by rfl)) ?_ | refine aa rfl (a8 rfl rfl zG trivial (by simp)) ?_ | refine aa rfl (ai rfl rfl zG trivial (ay (by assumption) rfl)) ?_ | refine aa rfl (ai rfl rfl zG trivial (by assumption)) ?_ | refine aa rfl (a9 rfl rfl zG trivial rfl (by assumption) rfl (by decide)) ?_ | refine aa rfl (ba rfl rfl zG (by rfl)) ?_
     refine ae rfl (ax rfl (by constructor)) ?_
     refine am ?_
     dsimp only [St.put]
     refine hK9 _ ?_
     refine bk ?_
     refine bo rfl (by constructor) zN zS ?_
     exact vs (ub hr h1 h2 hI.2).symm
    ·have hst2 := hst.2 hc
     refine bn ?_
     refine hK6 _ ?_
     refine aq ?_
     refine ae rfl (ar rfl (by constructor)) ?_
     first | refine ae rfl (bx rfl rfl rfl (by omega)) ?_ | refine ae rfl (cp rfl rfl rfl) ?_
     refine ae rfl (ax rfl (by constructor)) ?_
     refine am ?_
     dsimp only [St.put]
     exact ⟨k + 1, by omega, ⟨by omega, ub4 (p := fun r : bh => ¬ (r.pl = p ∧ r.kind ≠ 2)) hr hst2 hI.2⟩, ⟨⟨rfl, rfl⟩, zF, zB, zN, zX⟩⟩
  ·replace hc := of_decide_eq_false hc
   have hno := hI.2
   rw [dd (show c.rs.length ≤ k by omega)] at hno
   refine co ?_
   refine hK2 _ ?_
   refine aj fun K10 hK10 => ?_
   refine aq ?_
   try dsimp only [St.put]
   first | refine aa rfl (aw rfl rfl) ?_ | refine aa rfl (ah rfl rfl (Enc.len _)) ?_ | refine aa rfl (ah rfl rfl rfl) ?_ | refine aa rfl (a7 rfl rfl zG trivial (by first | rfl | assumption)) ?_ | refine aa rfl (az rfl rfl zG trivial (by rfl)) ?_ | refine aa rfl (a8 rfl rfl zG trivial (by simp)) ?_ | refine aa rfl (ai rfl rfl zG trivial (ay (by assumption) rfl)) ?_ | refine aa rfl (ai rfl rfl zG trivial (by assumption)) ?_ | refine aa rfl (a9 rfl rfl zG trivial rfl (by assumption) rfl (by decide)) ?_ | refine aa rfl (ba rfl rfl zG (by rfl)) ?_
   try dsimp only [St.put]
   first | refine aa rfl (aw rfl rfl) ?_ | refine aa rfl (ah rfl rfl (Enc.len _)) ?_ | refine aa rfl (ah rfl rfl rfl) ?_ | refine aa rfl (a7 rfl rfl zG trivial (by first | rfl | assumption)) ?_ | refine aa rfl (az rfl rfl zG trivial (by rfl)) ?_ | refine aa rfl (a8 rfl rfl zG trivial (by simp)) ?_ | refine aa rfl (ai rfl rfl zG trivial (ay (by assumption) rfl)) ?_ | refine aa rfl (ai rfl rfl zG trivial (by assumption)) ?_ | refine aa rfl (a9 rfl rfl zG trivial rfl (by assumption) rfl (by decide)) ?_ | refine aa rfl (ba rfl rfl zG (by rfl)) ?_
   try dsimp only [St.put]
   refine av rfl (br rfl rfl rfl (un t p ht hp) ?_)
   refine ae rfl (ax rfl (by constructor)) ?_
   refine am ?_
   dsimp only [St.put]
   refine hK10 _ ?_
   refine bk ?_
   refine bo rfl (by constructor) zN zS ?_
   exact vs (ua hno).symm
theorem uq (t : bd) (c : CopyD) (p : PlaceD) : Pure Tryd.prog 11 [dn t, val c, val p] (.tup [.v (.string (j0 t c p)), .v (.int .i64 (ix t c p))]) := by
 refine cx Tryd.func11 rfl (fun m => .tup (cv .v (cv .v de))) fun G nx => ?_
 simp only [Tryd.ntmps11, List.length_cons, List.length_nil, Nat.reduceAdd, Nat.reduceSub]
 refine b9 fun hlt => ?_
 dsimp only at hlt
 refine aj fun K1 hK1 => ?_
 refine aq ?_
 try dsimp only [St.put]
 refine av rfl (cw rfl rfl (by simp) ?_)
 try dsimp only [St.put]
 refine av rfl (cw rfl rfl (by simp) ?_)
 try dsimp only [St.put]
 refine av rfl (cw rfl rfl (by simp) ?_)
 refine ae rfl (ax rfl (by constructor)) ?_
 refine ae rfl (ax rfl (by constructor)) ?_
 refine am ?_
 dsimp only [St.put]
 refine hK1 _ ?_
 refine aj fun K2 hK2 => ?_
 refine aj fun K3 hK3 => ?_
 refine aq ?_
 try dsimp only [St.put]
 first | refine aa rfl (aw rfl rfl) ?_ | refine aa rfl (ah rfl rfl (Enc.len _)) ?_ | refine aa rfl (ah rfl rfl rfl) ?_ | refine aa rfl (a7 rfl rfl zG trivial (by first | rfl | assumption)) ?_ | refine aa rfl (az rfl rfl zG trivial (by rfl)) ?_ | refine aa rfl (a8 rfl rfl zG trivial (by simp)) ?_ | refine aa rfl (ai rfl rfl zG trivial (ay (by assumption) rfl)) ?_ | refine aa rfl (ai rfl rfl zG trivial (by assumption)) ?_ | refine aa rfl (a9 rfl rfl zG trivial rfl (by assumption) rfl (by decide)) ?_ | refine aa rfl (ba rfl rfl zG (by rfl)) ?_
 try dsimp only [St.put]
 first | refine aa rfl (aw rfl rfl) ?_ | refine aa rfl (ah rfl rfl (Enc.len _)) ?_ | refine aa rfl (ah rfl rfl rfl) ?_ | refine aa rfl (a7 rfl rfl zG trivial (by first | rfl | assumption)) ?_ | refine aa rfl (az rfl rfl zG trivial (by rfl)) ?_ | refine aa rfl (a8 rfl rfl zG trivial (by simp)) ?_ | refine aa rfl (ai rfl rfl zG trivial (ay (by assumption) rfl)) ?_ | refine aa rfl (ai rfl rfl zG trivial (by assumption)) ?_ | refine aa rfl (a9 rfl rfl zG trivial rfl (by assumption) rfl (by decide)) ?_ | refine aa rfl (ba rfl rfl zG (by rfl)) ?_
 try dsimp only [St.put]
 refine av rfl (br rfl rfl rfl (pf t c) ?_)
 refine ae rfl (ax rfl (by constructor)) ?_
 refine am ?_
 dsimp only [St.put]
 refine hK3 _ ?_
 refine aj fun K4 hK4 => ?_
 refine aq ?_
 refine ae rfl (ar rfl (by constructor)) ?_
 refine ae rfl (em rfl rfl rfl) ?_
 refine am ?_
 dsimp only [St.put]
 refine hK4 _ ?_
 refine bl rfl (fun hc => ?_) (fun hc => ?_)
 ·have h0 : ec t c ≠ 0 := gn hc
  have hE : ix t c p = ec t c := by simp [ix, h0]
  refine aj fun K5 hK5 => ?_
  refine aq ?_
  refine ae rfl (ar rfl (by constructor)) ?_
  refine ae rfl (ax rfl (by constructor)) ?_
  refine ae rfl (ax rfl (by constructor)) ?_
  refine am ?_
  dsimp only [St.put]
  refine hK5 _ ?_
  refine bk ?_
  refine j4 rfl (by constructor) (by constructor) zN zS ?_ ?_
  ·exact vs (by simp [j0, hE, h0]; rfl)
  ·exact vi hE.symm
 ·have h0 : ec t c = 0 := ff hc
  obtain ⟨ht, h2⟩ := copyEr_zero.1 h0
  refine bn ?_
  refine hK2 _ ?_
  refine aj fun K6 hK6 => ?_
  refine aj fun K7 hK7 => ?_
  refine aq ?_
  try dsimp only [St.put]
  first | refine aa rfl (aw rfl rfl) ?_ | refine aa rfl (ah rfl rfl (Enc.len _)) ?_ | refine aa rfl (ah rfl rfl rfl) ?_ | refine aa rfl (a7 rfl rfl zG trivial (by first | rfl | assumption)) ?_ | refine aa rfl (az rfl rfl zG trivial (by rfl)) ?_ | refine aa rfl (a8 rfl rfl zG trivial (by simp)) ?_ | refine aa rfl (ai rfl rfl zG trivial (ay (by assumption) rfl)) ?_ | refine aa rfl (ai rfl rfl zG trivial (by assumption)) ?_ | refine aa rfl (a9 rfl rfl zG trivial rfl (by assumption) rfl (by decide)) ?_ | refine aa rfl (ba rfl rfl zG (by rfl)) ?_
  try dsimp only [St.put]
  first | refine aa rfl (aw rfl rfl) ?_ | refine aa rfl (ah rfl rfl (Enc.len _)) ?_ | refine aa rfl (ah rfl rfl rfl) ?_ | refine aa rfl (a7 rfl rfl zG trivial (by first | rfl | assumption)) ?_ | refine aa rfl (az rfl rfl zG trivial (by rfl)) ?_ | refine aa rfl (a8 rfl rfl zG trivial (by simp)) ?_ | refine aa rfl (ai rfl rfl zG trivial (ay (by assumption) rfl)) ?_ | refine aa rfl (ai rfl rfl zG trivial (by assumption)) ?_ | refine aa rfl (a9 rfl rfl zG trivial rfl (by assumption) rfl (by decide)) ?_ | refine aa rfl (ba rfl rfl zG (by rfl)) ?_
  try dsimp only [St.put]
  refine av rfl (br rfl rfl rfl (ufu t p ht) ?_)
  refine ae rfl (dt rfl rfl) ?_
  refine am ?_
  dsimp only [St.put]
  refine hK7 _ ?_
  refine bl rfl (fun hc => ?_) (fun hc => ?_)
  ·have hp : fp t p = false := by simpa using hc
   refine aj fun K8 hK8 => ?_
   refine aq ?_
   refine ae rfl (ax rfl (by constructor)) ?_
   refine ae rfl (ax rfl (by constructor)) ?_
   refine am ?_
   dsimp only [St.put]
   refine hK8 _ ?_
   refine bk ?_
   refine j4 rfl (by constructor) (by constructor) zN zS ?_ ?_
   ·exact vs (by simp [j0, ix, h0, hp]; rfl)
   ·exact vi (by simp [ix, h0, hp])
  ·have hp : fp t p = true := by simpa using hc
   refine bn ?_
   refine hK6 _ ?_
   refine aj fun K9 hK9 => ?_
   refine aq ?_
   try dsimp only [St.put]
   first | refine aa rfl (aw rfl rfl) ?_ | refine aa rfl (ah rfl rfl (Enc.len _)) ?_ | refine aa rfl (ah rfl rfl rfl) ?_ | refine aa rfl (a7 rfl rfl zG trivial (by first | rfl | assumption)) ?_ | refine aa rfl (az rfl rfl zG trivial (by rfl)) ?_ | refine aa rfl (a8 rfl rfl zG trivial (by simp)) ?_ | refine aa rfl (ai rfl rfl zG trivial (ay (by assumption) rfl)) ?_ | refine aa rfl (ai rfl rfl zG trivial (by assumption)) ?_ | refine aa rfl (a9 rfl rfl zG trivial rfl (by assumption) rfl (by decide)) ?_ | refine aa rfl (ba rfl rfl zG (by rfl)) ?_
   try dsimp only [St.put]
   first | refine aa rfl (aw rfl rfl) ?_ | refine aa rfl (ah rfl rfl (Enc.len _)) ?_ | refine aa rfl (ah rfl rfl rfl) ?_ | refine aa rfl (a7 rfl rfl zG trivial (by first | rfl | assumption)) ?_ | refine aa rfl (az rfl rfl zG trivial (by rfl)) ?_ | refine aa rfl (a8 rfl rfl zG trivial (by simp)) ?_ | refine aa rfl (ai rfl rfl zG trivial (ay (by assumption) rfl)) ?_ | refine aa rfl (ai rfl rfl zG trivial (by assumption)) ?_ | refine aa rfl (a9 rfl rfl zG trivial rfl (by assumption) rfl (by decide)) ?_ | refine aa rfl (ba rfl rfl zG (by rfl)) ?_
   try dsimp only [St.put]
   first | refine aa rfl (aw rfl rfl) ?_ | refine aa rfl (ah rfl rfl (Enc.len _)) ?_ | refine aa rfl (ah rfl rfl rfl) ?_ | refine aa rfl (a7 rfl rfl zG trivial (by first | rfl | assumption)) ?_ | refine aa rfl (az rfl rfl zG trivial (by rfl)) ?_ | refine aa rfl (a8 rfl rfl zG trivial (by simp)) ?_ | refine aa rfl (ai rfl rfl zG trivial (ay (by assumption) rfl)) ?_ | refine aa rfl (ai rfl rfl zG trivial (by assumption)) ?_ | refine aa rfl (a9 rfl rfl zG trivial rfl (by assumption) rfl (by decide)) ?_ | refine aa rfl (ba rfl rfl zG (by rfl)) ?_
   try dsimp only [St.put]
   refine av rfl (br rfl rfl rfl (ur t c p ht hp) ?_)
   refine ae rfl (ax rfl (by constructor)) ?_
   refine ae rfl (ax rfl (by constructor)) ?_
   refine am ?_
   dsimp only [St.put]
   refine hK9 _ ?_
   refine bk ?_
   refine j4 rfl (by constructor) (by constructor) zN zS ?_ ?_
   ·exact vs (by simp [j0, ix, h0, hp])
   ·exact vi (by simp [ix, h0, hp])
theorem uo (c : CopyD) (hg : ll c = false) : Pure Tryd.prog 7 [val c] (val c) := by
 refine cx Tryd.func7 rfl (fun m => (e9 _ _)) fun G nx => ?_
 simp only [Tryd.ntmps7, List.length_cons, List.length_nil, Nat.reduceAdd, Nat.reduceSub]
 refine b9 fun hlt => ?_
 dsimp only at hlt
 have hl : c.rs.length ≤ 30 := by
  unfold ll at hg
  simp only [Bool.or_eq_false_iff, decide_eq_false_iff_not] at hg
  omega
 refine aj fun K1 hK1 => ?_
 refine aq ?_
 try dsimp only [St.put]
 refine av rfl (cw rfl rfl (by simp) ?_)
 try dsimp only [St.put]
 refine av rfl (di rfl ?_)
 refine am ?_
 dsimp only [St.put]
 refine hK1 _ ?_
 refine aj fun K2 hK2 => ?_
 refine fw [(0, none), (1, none), (3, none), (4, none), (2, none), (5, none), (6, none), (7, none)] (fun i => [7].contains i) (fun i => [2, 5, 7].contains i) (fun i => [0, 3, 6].contains i) [nx] (by kernel_rfl) (by kernel_rfl) ?_
 first | refine ak rfl rfl rfl rfl (bg rfl rfl rfl) ?_ | refine ak rfl rfl rfl rfl (bi rfl rfl) ?_
 try dsimp only [St.put]
 first | refine af rfl rfl rfl rfl (aw rfl rfl) ?_ | refine af rfl rfl rfl rfl (ah rfl rfl (Enc.len _)) ?_ | refine af rfl rfl rfl rfl (ah rfl rfl rfl) ?_ | refine af rfl rfl rfl rfl (a7 rfl rfl zG (by simp) (by first | rfl | assumption)) ?_ | refine af rfl rfl rfl rfl (az rfl rfl zG (by simp) (by rfl)) ?_ | refine af rfl rfl rfl rfl (a8 rfl rfl zG (by simp) (by simp)) ?_ | refine af rfl rfl rfl rfl (ai rfl rfl zG (by simp) (ay (by assumption) rfl)) ?_ | refine af rfl rfl rfl rfl (ai rfl rfl zG (by simp) (by assumption)) ?_ | refine af rfl rfl rfl rfl (a9 rfl rfl zG (by simp) rfl (by assumption) rfl (by decide)) ?_ | refine af rfl rfl rfl rfl (ba rfl rfl zG (by rfl)) ?_
 first | refine ak rfl rfl rfl rfl (bg rfl rfl rfl) ?_ | refine ak rfl rfl rfl rfl (bi rfl rfl) ?_
 try dsimp only [St.put]
 first | refine af rfl rfl rfl rfl (aw rfl rfl) ?_ | refine af rfl rfl rfl rfl (ah rfl rfl (Enc.len _)) ?_ | refine af rfl rfl rfl rfl (ah rfl rfl rfl) ?_ | refine af rfl rfl rfl rfl (a7 rfl rfl zG (by simp) (by first | rfl | assumption)) ?_ | refine af rfl rfl rfl rfl (az rfl rfl zG (by simp) (by rfl)) ?_ | refine af rfl rfl rfl rfl (a8 rfl rfl zG (by simp) (by simp)) ?_ | refine af rfl rfl rfl rfl (ai rfl rfl zG (by simp) (ay (by assumption) rfl)) ?_ | refine af rfl rfl rfl rfl (ai rfl rfl zG (by simp) (by assumption)) ?_ | refine af rfl rfl rfl rfl (a9 rfl rfl zG (by simp) rfl (by assumption) rfl (by decide)) ?_ | refine af rfl rfl rfl rfl (ba rfl rfl zG (by rfl)) ?_
 refine ie ?_
 try dsimp only [St.put]
 refine ge rfl rfl rfl (x4 rfl ⟨zD, ?_⟩)
 try dsimp only [St.put]
 refine ge rfl rfl rfl (x5 rfl rfl (by first | exact .inl rfl | exact .inr rfl) rfl (by decide) zA zA ⟨zD, ?_⟩)
 refine c0 rfl rfl rfl rfl (jo rfl rfl) ?_
 try dsimp only [St.put]
 first | refine ez rfl rfl rfl rfl (c8 rfl rfl rfl zG rfl rfl (by rfl) ?_) | refine ez rfl rfl rfl rfl (dh rfl rfl rfl zG (by constructor) rfl zO ?_)
 refine ib ?_
 dsimp only [St.put]
 refine hK2 _ ?_
 refine bk ?_
 refine j3 rfl (kj rfl zG (by rfl) zC rfl) zN zS ?_
 exact zW
set_option maxHeartbeats 1000000 in
theorem uw (t : bd) (cs : List CopyD) : Pure Tryd.prog 13 [dn t, lst cs] (.tup [lst (gk t cs), .v (.int .i64 (f9 t cs))]) := by
 refine cx Tryd.func13 rfl (fun m => .tup (cv (ce _ _) (cv .v de))) fun G nx => ?_
 simp only [Tryd.ntmps13, List.length_cons, List.length_nil, Nat.reduceAdd, Nat.reduceSub]
 refine b9 fun hlt => ?_
 dsimp only at hlt
 refine fj 1 (fun hf => ?_)
 have hf1 := (fit_lst.1 hf).1
 refine aj fun K1 hK1 => ?_
 refine aq ?_
 try dsimp only [St.put]
 refine av rfl (cw rfl rfl (by simp) ?_)
 refine ae rfl (ax rfl (by constructor)) ?_
 refine ae rfl (ax rfl (by constructor)) ?_
 refine am ?_
 dsimp only [St.put]
 refine hK1 _ ?_
 refine aj fun K2 hK2 => ?_
 refine aj fun K3 hK3 => ?_
 refine aq ?_
 try dsimp only [St.put]
 first | refine aa rfl (aw rfl rfl) ?_ | refine aa rfl (ah rfl rfl (Enc.len _)) ?_ | refine aa rfl (ah rfl rfl rfl) ?_ | refine aa rfl (a7 rfl rfl zG trivial (by first | rfl | assumption)) ?_ | refine aa rfl (az rfl rfl zG trivial (by rfl)) ?_ | refine aa rfl (a8 rfl rfl zG trivial (by simp)) ?_ | refine aa rfl (ai rfl rfl zG trivial (ay (by assumption) rfl)) ?_ | refine aa rfl (ai rfl rfl zG trivial (by assumption)) ?_ | refine aa rfl (a9 rfl rfl zG trivial rfl (by assumption) rfl (by decide)) ?_ | refine aa rfl (ba rfl rfl zG (by rfl)) ?_
 try dsimp only [St.put]
 refine av rfl (br rfl rfl rfl (zd t) ?_)
 refine ae rfl (dt rfl rfl) ?_
 refine am ?_
 dsimp only [St.put]
 refine hK3 _ ?_
 refine bl rfl (fun hc => ?_) (fun hc => ?_)
 ·have htx : ck t = false := by simpa using hc
  have hE : f9 t cs = 10 := by simp [f9, htx]
  refine aj fun K4 hK4 => ?_
  refine aq ?_
  refine ae rfl (ax rfl (by constructor)) ?_
  refine ae rfl (ax rfl (by constructor)) ?_
  refine am ?_
  dsimp only [St.put]
  refine hK4 _ ?_
  refine bk ?_
  refine i1 rfl (ed (by constructor)) (ed (by constructor)) zN zS ?_ ?_
  ·rw [show gk t cs = [] by simp [gk, hE]]
   exact zW
  ·rw [hE]; exact zW
 ·have htx : ck t = true := by simpa using hc
  have hal := ufa htx
  have hall : (iu t).length = (dq t).length := by simp [iu]
  refine bn ?_
  refine hK2 _ ?_
  refine aj fun K5 hK5 => ?_
  refine aj fun K6 hK6 => ?_
  refine aq ?_
  refine ae rfl (ar rfl (by constructor)) ?_
  first | refine ae rfl (bj rfl rfl (List.length_map _)) ?_ | refine ae rfl (bj rfl rfl rfl) ?_ | refine ae rfl (b8 rfl rfl) ?_ | refine ae rfl (cd rfl rfl) ?_ | refine ae rfl (cb rfl rfl) ?_ | refine ae rfl (ca rfl rfl (by omega)) ?_
  refine ae rfl (g7 rfl rfl rfl) ?_
  refine am ?_
  dsimp only [St.put]
  refine hK6 _ ?_
  refine bl rfl (fun hc => ?_) (fun hc => ?_)
  ·replace hc := of_decide_eq_true hc
   have hE : f9 t cs = 4 := by simp [f9, htx, show ¬ cs.length ≤ 5 by omega]
   refine aj fun K7 hK7 => ?_
   refine aq ?_
   refine ae rfl (ax rfl (by constructor)) ?_
   refine ae rfl (ax rfl (by constructor)) ?_
   refine am ?_
   dsimp only [St.put]
   refine hK7 _ ?_
   refine bk ?_
   refine i1 rfl (ed (by constructor)) (ed (by constructor)) zN zS ?_ ?_
   ·rw [show gk t cs = [] by simp [gk, hE]]
    exact zW
   ·rw [hE]; exact zW
  ·replace hc := of_decide_eq_false hc
   have hl5 : cs.length ≤ 5 := by omega
   refine bn ?_
   refine hK5 _ ?_
   refine aj fun K8 hK8 => ?_
   refine aj fun K9 hK9 => ?_
   refine aq ?_
   refine ae rfl (ax rfl (by constructor)) ?_
   refine am ?_
   dsimp only [St.put]
   refine hK9 _ ?_
   refine bq ?_
   refine cg 12 ?_
   refine zQ ?_
   refine cn (G) zX ?_
   dsimp only
   refine cz (X := Nat) (fun k => k ≤ cs.length ∧ (cs.take k).all (eo t) = true) (fun k => cs.length - k) (fun k => [(6, .v (.int .i64 (k : Int)))]) (fun k G' => G') 0 rfl ?_ ?_ (fun _ _ h => h) ?_ ?_ ?_
   ·exact ⟨Nat.zero_le _, rfl⟩
   ·exact zF
   ·rintro k hI
    exact zL
   ·exact fun _ _ _ _ h => .inl h
   ·rintro k hI
    dsimp only at hI ⊢
    refine aj fun K10 hK10 => ?_
    refine aj fun K11 hK11 => ?_
    refine aq ?_
    refine ae rfl (ar rfl (by constructor)) ?_
    refine ae rfl (ar rfl (by constructor)) ?_
    first | refine ae rfl (bj rfl rfl (List.length_map _)) ?_ | refine ae rfl (bj rfl rfl rfl) ?_ | refine ae rfl (b8 rfl rfl) ?_ | refine ae rfl (cd rfl rfl) ?_ | refine ae rfl (cb rfl rfl) ?_ | refine ae rfl (ca rfl rfl (by omega)) ?_
    refine ae rfl (cj rfl rfl rfl) ?_
    refine am ?_
    dsimp only [St.put]
    refine hK11 _ ?_
    refine bl rfl (fun hc => ?_) (fun hc => ?_)
    ·replace hc := of_decide_eq_true hc
     obtain ⟨c, hx⟩ : ∃ x, cs[k]? = some x := cm (by omega)
     refine bn ?_
     refine hK10 _ ?_
     refine aj fun K12 hK12 => ?_
     refine bq ?_
     refine aj fun K13 hK13 => ?_
     refine fw [(0, none), (1, none), (2, none), (3, none), (4, none), (5, none), (6, none)] (fun i => [5].contains i) (fun i => [5].contains i) (fun i => [1, 2, 3, 6].contains i) [] (by kernel_rfl) (by kernel_rfl) ?_
     try dsimp only [St.put]
     first | refine af rfl rfl rfl rfl (aw rfl rfl) ?_ | refine af rfl rfl rfl rfl (ah rfl rfl (Enc.len _)) ?_ | refine af rfl rfl rfl rfl (ah rfl rfl rfl) ?_ | refine af rfl rfl rfl rfl (a7 rfl rfl zG (by simp) (by first | rfl | assumption)) ?_ | refine af rfl rfl rfl rfl (az rfl rfl zG (by simp) (by rfl)) ?_ | refine af rfl rfl rfl rfl (a8 rfl rfl zG (by simp) (by simp)) ?_ | refine af rfl rfl rfl rfl (ai rfl rfl zG (by simp) (ay (by assumption) rfl)) ?_ | refine af rfl rfl rfl rfl (ai rfl rfl zG (by simp) (by assumption)) ?_ | refine af rfl rfl rfl rfl (a9 rfl rfl zG (by simp) rfl (by assumption) rfl (by decide)) ?_ | refine af rfl rfl rfl rfl (ba rfl rfl zG (by rfl)) ?_
     refine ak rfl rfl rfl rfl (ar rfl (by constructor)) ?_
     refine ak rfl rfl rfl rfl (ar rfl (by constructor)) ?_
     try dsimp only [St.put]
     first | refine ak rfl rfl rfl rfl (bf rfl rfl rfl rfl (bm (by assumption)) (Enc.len _)) ?_ | refine ak rfl rfl rfl rfl (bf rfl rfl rfl rfl (by assumption) rfl) ?_ | refine ak rfl rfl rfl rfl (cr rfl rfl rfl (by first | exact ct _ | exact rfl) (by omega)) ?_ | refine ak rfl rfl rfl rfl (bf rfl rfl rfl (by omega) (bm (by assumption)) (Enc.len _)) ?_
     try dsimp only [St.put]
     first | refine af rfl rfl rfl rfl (aw rfl rfl) ?_ | refine af rfl rfl rfl rfl (ah rfl rfl (Enc.len _)) ?_ | refine af rfl rfl rfl rfl (ah rfl rfl rfl) ?_ | refine af rfl rfl rfl rfl (a7 rfl rfl zG (by simp) (by first | rfl | assumption)) ?_ | refine af rfl rfl rfl rfl (az rfl rfl zG (by simp) (by rfl)) ?_ | refine af rfl rfl rfl rfl (a8 rfl rfl zG (by simp) (by simp)) ?_ | refine af rfl rfl rfl rfl (ai rfl rfl zG (by simp) (ay (by assumption) rfl)) ?_ | refine af rfl rfl rfl rfl (ai rfl rfl zG (by simp) (by assumption)) ?_ | refine af rfl rfl rfl rfl (a9 rfl rfl zG (by simp) rfl (by assumption) rfl (by decide)) ?_ | refine af rfl rfl rfl rfl (ba rfl rfl zG (by rfl)) ?_
     refine ie ?_
     try dsimp only [St.put]
     refine ez rfl rfl rfl rfl (br rfl rfl rfl (ux t c htx) ?_)
     refine c0 rfl rfl rfl rfl (dt rfl rfl) ?_
     refine ib ?_
     dsimp only [St.put]
     refine hK13 _ ?_
     refine bl rfl (fun hc => ?_) (fun hc => ?_)
     ·have hcb : eo t c = false := by simpa using hc
      have hE : f9 t cs = 11 := by simp [f9, htx, hl5, gu hx hcb]
      refine aj fun K14 hK14 => ?_
      refine aq ?_
      refine ae rfl (ax rfl (by constructor)) ?_
      refine ae rfl (ax rfl (by constructor)) ?_
      refine am ?_
      dsimp only [St.put]
      refine hK14 _ ?_
      refine bk ?_
      refine i1 rfl (ed (by constructor)) (ed (by constructor)) zN zS ?_ ?_
      ·rw [show gk t cs = [] by simp [gk, hE]]
       exact zW
      ·rw [hE]; exact zW
     ·have hcb : eo t c = true := by simpa using hc
      refine bn ?_
      refine hK12 _ ?_
      refine aq ?_
      refine ae rfl (ar rfl (by constructor)) ?_
      first | refine ae rfl (bx rfl rfl rfl (by omega)) ?_ | refine ae rfl (cp rfl rfl rfl) ?_
      refine ae rfl (ax rfl (by constructor)) ?_
      refine am ?_
      dsimp only [St.put]
      exact ⟨k + 1, by omega, ⟨by omega, by rw [ja hx, hI.2, hcb]; rfl⟩, ⟨⟨rfl, rfl⟩, zF, zB, zN, zX⟩⟩
    ·replace hc := of_decide_eq_false hc
     have hE : f9 t cs = 0 := by
      have := hI.2
      rw [dd (show cs.length ≤ k by omega)] at this
      simp [f9, htx, hl5, this]
     refine co ?_
     refine hK8 _ ?_
     refine aj fun K15 hK15 => ?_
     refine aq ?_
     refine ae rfl (ax rfl (by constructor)) ?_
     refine am ?_
     dsimp only [St.put]
     refine hK15 _ ?_
     refine qx 7 29 3 rfl (by decide) ?_
     dsimp only [List.set_cons_zero, List.set_cons_succ]
     refine aj fun K16 hK16 => ?_
     refine aq ?_
     try dsimp only [St.put]
     first | refine aa rfl (aw rfl rfl) ?_ | refine aa rfl (ah rfl rfl (Enc.len _)) ?_ | refine aa rfl (ah rfl rfl rfl) ?_ | refine aa rfl (a7 rfl rfl zG trivial (by first | rfl | assumption)) ?_ | refine aa rfl (az rfl rfl zG trivial (by rfl)) ?_ | refine aa rfl (a8 rfl rfl zG trivial (by simp)) ?_ | refine aa rfl (ai rfl rfl zG trivial (ay (by assumption) rfl)) ?_ | refine aa rfl (ai rfl rfl zG trivial (by assumption)) ?_ | refine aa rfl (a9 rfl rfl zG trivial rfl (by assumption) rfl (by decide)) ?_ | refine aa rfl (ba rfl rfl zG (by rfl)) ?_
     try dsimp only [St.put]
     refine av rfl (br rfl rfl rfl (uav t htx) ?_)
     refine ae rfl (ax rfl (by constructor)) ?_
     refine am ?_
     dsimp only [St.put]
     refine hK16 _ ?_
     refine aj fun K17 hK17 => ?_
     refine aj fun K18 hK18 => ?_
     refine aq ?_
     refine ae rfl (ax rfl (by constructor)) ?_
     refine am ?_
     dsimp only [St.put]
     refine hK18 _ ?_
     refine bq ?_
     refine cg 12 ?_
     refine zQ ?_
     refine cn ((bc G nx (.tip (er [] cs).length 29 3))) zX ?_
     dsimp only
     refine cz (X := Nat) (fun i => i ≤ (iu t).length) (fun i => (iu t).length - i) (fun i => [(7, .list ((er ((dq t).take i) cs).map cells) (.tip nx)), (9, .v (.int .i64 (i : Int))), (10, .any), (11, .any)]) (fun i G' => (bc G nx (.tip (er (((dq t).take i)) cs).length 29 3))) 0 rfl ?_ ?_ ?_ ?_ ?_ ?_
     ·exact Nat.zero_le _
     ·exact zF
     ·exact zX
     ·rintro i hI
      exact zL
     ·rintro i hI
      exact zH
     ·rintro i hJ
      dsimp only at hJ ⊢
      refine aj fun K19 hK19 => ?_
      refine aj fun K20 hK20 => ?_
      refine aq ?_
      refine ae rfl (ar rfl (by constructor)) ?_
      refine ae rfl (ar rfl (by constructor)) ?_
      first | refine ae rfl (bj rfl rfl (List.length_map _)) ?_ | refine ae rfl (bj rfl rfl rfl) ?_ | refine ae rfl (b8 rfl rfl) ?_ | refine ae rfl (cd rfl rfl) ?_ | refine ae rfl (cb rfl rfl) ?_ | refine ae rfl (ca rfl rfl (by omega)) ?_
      refine ae rfl (cj rfl rfl rfl) ?_
      refine am ?_
      dsimp only [St.put]
      refine hK20 _ ?_
      refine bl rfl (fun hc => ?_) (fun hc => ?_)
      ·replace hc := of_decide_eq_true hc
       obtain ⟨x, hx⟩ : ∃ x, (dq t)[i]? = some x := cm (by omega)
       have hq := ufb hx
       obtain ⟨hpl, hwp⟩ := ufl hx
       have hwc := un t x.1 htx hpl
       have hdl := x8 ((dq t).take i) cs
       rw [List.length_take] at hdl
       rw [hwp] at hwc
       refine bn ?_
       refine hK19 _ ?_
       refine aj fun K21 hK21 => ?_
       refine bq ?_
       refine aj fun K22 hK22 => ?_
       refine aq ?_
       refine ae rfl (ax rfl (by constructor)) ?_
       refine am ?_
       dsimp only [St.put]
       refine hK22 _ ?_
       refine aj fun K23 hK23 => ?_
       refine aj fun K24 hK24 => ?_
       refine aq ?_
       refine ae rfl (ax rfl (by constructor)) ?_
       refine am ?_
       dsimp only [St.put]
       refine hK24 _ ?_
       refine bq ?_
       refine cg 12 ?_
       refine zQ ?_
       refine cn ((bc G nx (.tip (er (((dq t).take i)) cs).length 29 3))) zX ?_
       dsimp only
       refine cz (X := Nat × Bool) (fun y => y.1 ≤ cs.length ∧ y.2 = g9 (cs.take y.1) x) (fun y => cs.length - y.1) (fun y => [(10, .v (.bool y.2)), (11, .v (.int .i64 (y.1 : Int)))]) (fun y G' => (bc G nx (.tip (er (((dq t).take i)) cs).length 29 3))) (0, false) rfl ?_ ?_ ?_ ?_ ?_ ?_
       ·exact ⟨Nat.zero_le _, rfl⟩
       ·exact zF
       ·exact zX
       ·rintro ⟨j, b⟩ hI
        exact zL
       ·rintro ⟨j, b⟩ hI
        exact zH
       ·rintro ⟨j, b⟩ hM
        dsimp only at hM ⊢
        refine aj fun K25 hK25 => ?_
        refine aj fun K26 hK26 => ?_
        refine aq ?_
        refine ae rfl (ar rfl (by constructor)) ?_
        refine ae rfl (ar rfl (by constructor)) ?_
        first | refine ae rfl (bj rfl rfl (List.length_map _)) ?_ | refine ae rfl (bj rfl rfl rfl) ?_ | refine ae rfl (b8 rfl rfl) ?_ | refine ae rfl (cd rfl rfl) ?_ | refine ae rfl (cb rfl rfl) ?_ | refine ae rfl (ca rfl rfl (by omega)) ?_
        refine ae rfl (cj rfl rfl rfl) ?_
        refine am ?_
        dsimp only [St.put]
        refine hK26 _ ?_
        refine bl rfl (fun hc => ?_) (fun hc => ?_)
        ·replace hc := of_decide_eq_true hc
         obtain ⟨c, hcj⟩ : ∃ x, cs[j]? = some x := cm (by omega)
         have hsc := ur t c x.1 htx hpl
         rw [hwp] at hsc
         refine bn ?_
         refine hK25 _ ?_
         refine aj fun K27 hK27 => ?_
         refine bq ?_
         refine fw [(0, none), (1, none), (2, none), (3, none), (4, none), (5, none), (6, none), (7, none), (8, none), (9, none), (10, none), (12, none), (13, none), (14, none), (15, none), (16, none), (11, none), (17, none), (18, none), (19, none), (20, none)] (fun i => [17].contains i) (fun i => [11, 17].contains i) (fun i => [0, 1, 3, 4, 5, 7, 8, 9, 13, 14, 15, 18, 19, 20].contains i) [] (by kernel_rfl) (by kernel_rfl) ?_
         refine ak rfl rfl rfl rfl (ar rfl (by constructor)) ?_
         refine ak rfl rfl rfl rfl (ar rfl (by constructor)) ?_
         refine k7 (fun hs => ?_) (fun hs => ?_)
         ·have hs2 := hs
          refine bp rfl rfl rfl ?_
          refine bp rfl rfl rfl ?_
          refine bp rfl rfl rfl ?_
          refine bp rfl rfl rfl ?_
          refine bp rfl rfl rfl ?_
          refine bp rfl rfl rfl ?_
          refine bp rfl rfl rfl ?_
          refine bp rfl rfl rfl ?_
          refine bp rfl rfl rfl ?_
          refine bp rfl rfl rfl ?_
          refine bp rfl rfl rfl ?_
          refine bp rfl rfl rfl ?_
          refine bp rfl rfl rfl ?_
          refine bp rfl rfl rfl ?_
          refine ie ?_
          refine zb rfl rfl rfl ?_
          refine zb rfl rfl rfl ?_
          refine ufn rfl rfl rfl ?_
          first | refine c0 rfl rfl rfl rfl (bt rfl rfl (by constructor)) ?_ | refine c0 rfl rfl rfl rfl (bu rfl rfl (by constructor)) ?_ | refine c0 rfl rfl rfl rfl (b7 rfl rfl rfl rfl) ?_ | refine c0 rfl rfl rfl rfl (bz rfl rfl rfl rfl) ?_
          refine c0 rfl rfl rfl rfl (ax rfl (by constructor)) ?_
          refine ib ?_
          dsimp only [St.put]
          refine hK27 _ ?_
          refine aq ?_
          refine ae rfl (ar rfl (by constructor)) ?_
          first | refine ae rfl (bx rfl rfl rfl (by omega)) ?_ | refine ae rfl (cp rfl rfl rfl) ?_
          refine ae rfl (ax rfl (by constructor)) ?_
          refine am ?_
          dsimp only [St.put]
          have hbj : b = g9 (cs.take j) x := hM.2
          have hst : g9 (cs.take (j + 1)) x = (b || !decide (il c.rs x.1 x.2 = x.2)) := by
           unfold g9 at hbj ⊢
           rw [ng hcj, ← hbj]
          first
          | (have q : b = true := hs2
             rw [q, Bool.true_or] at hst
             exact ⟨(j + 1, true), by (dsimp only; omega), ⟨by (dsimp only; omega), hst.symm⟩, ⟨⟨rfl, rfl⟩, zF, zB, zN, zX⟩⟩)
          | (have q : b = false := hs2
             rw [q, Bool.false_or] at hst
             exact ⟨(j + 1, !decide (il c.rs x.1 x.2 = x.2)), by (dsimp only; omega), ⟨by (dsimp only; omega), hst.symm⟩, ⟨⟨rfl, rfl⟩, zF, zB, zN, zX⟩⟩)
         ·have hs2 := hs
          try dsimp only [St.put]
          first | refine af rfl rfl rfl rfl (aw rfl rfl) ?_ | refine af rfl rfl rfl rfl (ah rfl rfl (Enc.len _)) ?_ | refine af rfl rfl rfl rfl (ah rfl rfl rfl) ?_ | refine af rfl rfl rfl rfl (a7 rfl rfl zG (by simp) (by first | rfl | assumption)) ?_ | refine af rfl rfl rfl rfl (az rfl rfl zG (by simp) (by rfl)) ?_ | refine af rfl rfl rfl rfl (a8 rfl rfl zG (by simp) (by simp)) ?_ | refine af rfl rfl rfl rfl (ai rfl rfl zG (by simp) (ay (by assumption) rfl)) ?_ | refine af rfl rfl rfl rfl (ai rfl rfl zG (by simp) (by assumption)) ?_ | refine af rfl rfl rfl rfl (a9 rfl rfl zG (by simp) rfl (by assumption) rfl (by decide)) ?_ | refine af rfl rfl rfl rfl (ba rfl rfl zG (by rfl)) ?_
          refine ak rfl rfl rfl rfl (ar rfl (by constructor)) ?_
          refine ak rfl rfl rfl rfl (ar rfl (by constructor)) ?_
          try dsimp only [St.put]
          first | refine ak rfl rfl rfl rfl (bf rfl rfl rfl rfl (bm (by assumption)) (Enc.len _)) ?_ | refine ak rfl rfl rfl rfl (bf rfl rfl rfl rfl (by assumption) rfl) ?_ | refine ak rfl rfl rfl rfl (cr rfl rfl rfl (by first | exact ct _ | exact rfl) (by omega)) ?_ | refine ak rfl rfl rfl rfl (bf rfl rfl rfl (by omega) (bm (by assumption)) (Enc.len _)) ?_
          try dsimp only [St.put]
          first | refine af rfl rfl rfl rfl (aw rfl rfl) ?_ | refine af rfl rfl rfl rfl (ah rfl rfl (Enc.len _)) ?_ | refine af rfl rfl rfl rfl (ah rfl rfl rfl) ?_ | refine af rfl rfl rfl rfl (a7 rfl rfl zG (by simp) (by first | rfl | assumption)) ?_ | refine af rfl rfl rfl rfl (az rfl rfl zG (by simp) (by rfl)) ?_ | refine af rfl rfl rfl rfl (a8 rfl rfl zG (by simp) (by simp)) ?_ | refine af rfl rfl rfl rfl (ai rfl rfl zG (by simp) (ay (by assumption) rfl)) ?_ | refine af rfl rfl rfl rfl (ai rfl rfl zG (by simp) (by assumption)) ?_ | refine af rfl rfl rfl rfl (a9 rfl rfl zG (by simp) rfl (by assumption) rfl (by decide)) ?_ | refine af rfl rfl rfl rfl (ba rfl rfl zG (by rfl)) ?_
          refine ak rfl rfl rfl rfl (ar rfl (by constructor)) ?_
          refine ak rfl rfl rfl rfl (ar rfl (by constructor)) ?_
          try dsimp only [St.put]
          first | refine ak rfl rfl rfl rfl (bf rfl rfl rfl rfl (bm (by assumption)) (Enc.len _)) ?_ | refine ak rfl rfl rfl rfl (bf rfl rfl rfl rfl (by assumption) rfl) ?_ | refine ak rfl rfl rfl rfl (cr rfl rfl rfl (by first | exact ct _ | exact rfl) (by omega)) ?_ | refine ak rfl rfl rfl rfl (bf rfl rfl rfl (by omega) (bm (by assumption)) (Enc.len _)) ?_
          try dsimp only [St.put]
          first | refine af rfl rfl rfl rfl (aw rfl rfl) ?_ | refine af rfl rfl rfl rfl (ah rfl rfl (Enc.len _)) ?_ | refine af rfl rfl rfl rfl (ah rfl rfl rfl) ?_ | refine af rfl rfl rfl rfl (a7 rfl rfl zG (by simp) (by first | rfl | assumption)) ?_ | refine af rfl rfl rfl rfl (az rfl rfl zG (by simp) (by rfl)) ?_ | refine af rfl rfl rfl rfl (a8 rfl rfl zG (by simp) (by simp)) ?_ | refine af rfl rfl rfl rfl (ai rfl rfl zG (by simp) (ay (by assumption) rfl)) ?_ | refine af rfl rfl rfl rfl (ai rfl rfl zG (by simp) (by assumption)) ?_ | refine af rfl rfl rfl rfl (a9 rfl rfl zG (by simp) rfl (by assumption) rfl (by decide)) ?_ | refine af rfl rfl rfl rfl (ba rfl rfl zG (by rfl)) ?_
          try dsimp only [St.put]
          first | refine af rfl rfl rfl rfl (aw rfl rfl) ?_ | refine af rfl rfl rfl rfl (ah rfl rfl (Enc.len _)) ?_ | refine af rfl rfl rfl rfl (ah rfl rfl rfl) ?_ | refine af rfl rfl rfl rfl (a7 rfl rfl zG (by simp) (by first | rfl | assumption)) ?_ | refine af rfl rfl rfl rfl (az rfl rfl zG (by simp) (by rfl)) ?_ | refine af rfl rfl rfl rfl (a8 rfl rfl zG (by simp) (by simp)) ?_ | refine af rfl rfl rfl rfl (ai rfl rfl zG (by simp) (ay (by assumption) rfl)) ?_ | refine af rfl rfl rfl rfl (ai rfl rfl zG (by simp) (by assumption)) ?_ | refine af rfl rfl rfl rfl (a9 rfl rfl zG (by simp) rfl (by assumption) rfl (by decide)) ?_ | refine af rfl rfl rfl rfl (ba rfl rfl zG (by rfl)) ?_
          refine ak rfl rfl rfl rfl (ar rfl (by constructor)) ?_
          refine ak rfl rfl rfl rfl (ar rfl (by constructor)) ?_
          try dsimp only [St.put]
          first | refine ak rfl rfl rfl rfl (bf rfl rfl rfl rfl (bm (by assumption)) (Enc.len _)) ?_ | refine ak rfl rfl rfl rfl (bf rfl rfl rfl rfl (by assumption) rfl) ?_ | refine ak rfl rfl rfl rfl (cr rfl rfl rfl (by first | exact ct _ | exact rfl) (by omega)) ?_ | refine ak rfl rfl rfl rfl (bf rfl rfl rfl (by omega) (bm (by assumption)) (Enc.len _)) ?_
          try dsimp only [St.put]
          first | refine af rfl rfl rfl rfl (aw rfl rfl) ?_ | refine af rfl rfl rfl rfl (ah rfl rfl (Enc.len _)) ?_ | refine af rfl rfl rfl rfl (ah rfl rfl rfl) ?_ | refine af rfl rfl rfl rfl (a7 rfl rfl zG (by simp) (by first | rfl | assumption)) ?_ | refine af rfl rfl rfl rfl (az rfl rfl zG (by simp) (by rfl)) ?_ | refine af rfl rfl rfl rfl (a8 rfl rfl zG (by simp) (by simp)) ?_ | refine af rfl rfl rfl rfl (ai rfl rfl zG (by simp) (ay (by assumption) rfl)) ?_ | refine af rfl rfl rfl rfl (ai rfl rfl zG (by simp) (by assumption)) ?_ | refine af rfl rfl rfl rfl (a9 rfl rfl zG (by simp) rfl (by assumption) rfl (by decide)) ?_ | refine af rfl rfl rfl rfl (ba rfl rfl zG (by rfl)) ?_
          refine ie ?_
          try dsimp only [St.put]
          refine ge rfl rfl rfl (br rfl rfl rfl (hsc) ⟨zD, ?_⟩)
          try dsimp only [St.put]
          refine ez rfl rfl rfl rfl (br rfl rfl rfl (hwc) ?_)
          refine c0 rfl rfl rfl rfl (me rfl rfl rfl) ?_
          first | refine c0 rfl rfl rfl rfl (bt rfl rfl (by constructor)) ?_ | refine c0 rfl rfl rfl rfl (bu rfl rfl (by constructor)) ?_ | refine c0 rfl rfl rfl rfl (b7 rfl rfl rfl rfl) ?_ | refine c0 rfl rfl rfl rfl (bz rfl rfl rfl rfl) ?_
          refine c0 rfl rfl rfl rfl (ax rfl (by constructor)) ?_
          refine ib ?_
          dsimp only [St.put]
          refine hK27 _ ?_
          refine aq ?_
          refine ae rfl (ar rfl (by constructor)) ?_
          first | refine ae rfl (bx rfl rfl rfl (by omega)) ?_ | refine ae rfl (cp rfl rfl rfl) ?_
          refine ae rfl (ax rfl (by constructor)) ?_
          refine am ?_
          dsimp only [St.put]
          have hbj : b = g9 (cs.take j) x := hM.2
          have hst : g9 (cs.take (j + 1)) x = (b || !decide (il c.rs x.1 x.2 = x.2)) := by
           unfold g9 at hbj ⊢
           rw [ng hcj, ← hbj]
          first
          | (have q : b = true := hs2
             rw [q, Bool.true_or] at hst
             exact ⟨(j + 1, true), by (dsimp only; omega), ⟨by (dsimp only; omega), hst.symm⟩, ⟨⟨rfl, rfl⟩, zF, zB, zN, zX⟩⟩)
          | (have q : b = false := hs2
             rw [q, Bool.false_or] at hst
             exact ⟨(j + 1, !decide (il c.rs x.1 x.2 = x.2)), by (dsimp only; omega), ⟨by (dsimp only; omega), hst.symm⟩, ⟨⟨rfl, rfl⟩, zF, zB, zN, zX⟩⟩)
        ·replace hc := of_decide_eq_false hc
         have hdb : b = g9 cs x := by
          have : b = g9 (cs.take j) x := hM.2
          rwa [dd (show cs.length ≤ j by omega)] at this
         refine co ?_
         refine hK23 _ ?_
         refine aj fun K28 hK28 => ?_
         refine aq ?_
         refine ae rfl (ar rfl (by constructor)) ?_
         refine am ?_
         dsimp only [St.put]
         refine hK28 _ ?_
         refine bl rfl (fun hc => ?_) (fun hc => ?_)
         ·skip
          refine aq ?_
          refine ae rfl (ar rfl (by constructor)) ?_
          refine ae rfl (ar rfl (by constructor)) ?_
          refine ae rfl (ar rfl (by constructor)) ?_
          try dsimp only [St.put]
          first | refine ae rfl (bf rfl rfl rfl rfl (bm (by assumption)) (Enc.len _)) ?_ | refine ae rfl (bf rfl rfl rfl rfl (by assumption) rfl) ?_ | refine ae rfl (cr rfl rfl rfl (by first | exact ct _ | exact rfl) (by omega)) ?_ | refine ae rfl (bf rfl rfl rfl (by omega) (bm (by assumption)) (Enc.len _)) ?_
          try dsimp only [St.put]
          first | refine aa rfl (aw rfl rfl) ?_ | refine aa rfl (ah rfl rfl (Enc.len _)) ?_ | refine aa rfl (ah rfl rfl rfl) ?_ | refine aa rfl (a7 rfl rfl zG trivial (by first | rfl | assumption)) ?_ | refine aa rfl (az rfl rfl zG trivial (by rfl)) ?_ | refine aa rfl (a8 rfl rfl zG trivial (by simp)) ?_ | refine aa rfl (ai rfl rfl zG trivial (ay (by assumption) rfl)) ?_ | refine aa rfl (ai rfl rfl zG trivial (by assumption)) ?_ | refine aa rfl (a9 rfl rfl zG trivial rfl (by assumption) rfl (by decide)) ?_ | refine aa rfl (ba rfl rfl zG (by rfl)) ?_
          try dsimp only [St.put]
          refine av rfl (dx rfl rfl rfl (by decide) (by decide) zR (by decide) ?_)
          try dsimp only [St.put]
          refine av rfl (gr ([x.1]) rfl rfl zG zE rfl rfl zA ?_ zA)
          refine ae rfl (ax rfl (by constructor)) ?_
          refine am ?_
          dsimp only [St.put]
          refine hK21 _ ?_
          refine aq ?_
          refine ae rfl (ar rfl (by constructor)) ?_
          first | refine ae rfl (bx rfl rfl rfl (by omega)) ?_ | refine ae rfl (cp rfl rfl rfl) ?_
          refine ae rfl (ax rfl (by constructor)) ?_
          refine am ?_
          dsimp only [St.put]
          have e2 := x7 (cs := cs) hx
          rw [← hdb] at e2
          first
          | (rw [hc, cond_true] at e2
             rw [← e2]
             exact ⟨i + 1, by omega, by omega, ⟨⟨rfl, rfl⟩, zF, zB, zN, zX⟩⟩)
          | (rw [hc, cond_false, List.append_nil] at e2
             rw [← e2]
             exact ⟨i + 1, by omega, by omega, ⟨⟨rfl, rfl⟩, zF, zB, zN, zX⟩⟩)
         ·skip
          refine bn ?_
          refine hK21 _ ?_
          refine aq ?_
          refine ae rfl (ar rfl (by constructor)) ?_
          first | refine ae rfl (bx rfl rfl rfl (by omega)) ?_ | refine ae rfl (cp rfl rfl rfl) ?_
          refine ae rfl (ax rfl (by constructor)) ?_
          refine am ?_
          dsimp only [St.put]
          have e2 := x7 (cs := cs) hx
          rw [← hdb] at e2
          first
          | (rw [hc, cond_true] at e2
             rw [← e2]
             exact ⟨i + 1, by omega, by omega, ⟨⟨rfl, rfl⟩, zF, zB, zN, zX⟩⟩)
          | (rw [hc, cond_false, List.append_nil] at e2
             rw [← e2]
             exact ⟨i + 1, by omega, by omega, ⟨⟨rfl, rfl⟩, zF, zB, zN, zX⟩⟩)
      ·replace hc := of_decide_eq_false hc
       refine co ?_
       refine hK17 _ ?_
       refine aj fun K29 hK29 => ?_
       refine aq ?_
       refine ae rfl (ar rfl (by constructor)) ?_
       refine ae rfl (ax rfl (by constructor)) ?_
       refine ae rfl (ax rfl (by constructor)) ?_
       refine am ?_
       dsimp only [St.put]
       rw [dd (show (dq t).length ≤ i by omega)]
       refine hK29 _ ?_
       refine bk ?_
       refine i1 rfl (ed (by constructor)) (ed (by constructor)) zN zS ?_ ?_
       ·rw [show gk t cs = er (dq t) cs by simp [gk, hE]]
        exact zW
       ·rw [hE]; exact zW
end Go.Proofs.YthboenlglkmnjaaDoor
namespace Go.AB
open Go Go.RowKit
/-- What stands in a slot is known less well. -/
theorem uew {ρ : Option Nat} {P : Program} {Q : Exit → St → Prop} {st : St} {x : Code} (i : Nat) {c : C} (c' : C) (h0 : st.at i = c) (hw : Wk c c') (h : AW ρ P x Q { st with r := (i, c') :: st.r }) : AW ρ P x Q st := by
 intro E w a hs
 have hp := hs.at i
 rw [h0] at hp
 refine h E w a ⟨hs.d, hs.sz, fun j v hj => ?_, hs.g⟩
 simp only [cq]
 cases hb : Nat.beq i j
 ·exact hs.t j v hj
 ·have hij := Nat.eq_of_beq_eq_true hb
  subst hij
  have hv : a.tmps.getD i undef = v := by rw [Array.getD_eq_getD_getElem?, hj]; rfl
  rw [hv] at hp
  exact hw.2 _ _ _ hp
end Go.AB
