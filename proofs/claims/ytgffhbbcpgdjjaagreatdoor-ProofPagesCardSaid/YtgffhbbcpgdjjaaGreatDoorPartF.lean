/-
  What the walks through the program rest on: values, states, steps, calls (KcWords, SqPages, OpenL, OpenW, OpenS, Trod).
-/
import Derived.Test.YtgffhbbcpgdjjaaGreatDoorPartE
import Derived.Test.YtgffhbbcpgdjjaaGreatDoorPartC
import Derived.Test.YtgffhbbcpgdjjaaGreatDoorRows
import Derived.Test.YtgffhbbcpgdjjaaGreatDoorPartD
import Derived.LaidMore
import Derived.RowKitVeiled
import Derived.Carry
namespace Go.AB
open Go Go.RowKit
open Go.AB.Enc (cells)
open Go.PB (bg aj PlaceD bn bq bp)
/-- so many were counted -/
def ctG (G : Nat → Option GObj) (n : Nat) (zs : List PW) : Nat → Option GObj := ay G n (.box (zs.length + 1) [.v (.int .i64 (zs.length : Int))])
/-- what is left of a number behind so many -/
def dnV (n : Int) (k : Nat) : Int := bif decide (-9223372036854775808 ≤ n - (k : Int)) then n - (k : Int) else n - (k : Int) + 18446744073709551616
theorem un6 {n : Int} (h : I64 n) : dnV n 0 = n := by
 unfold I64 at h
 unfold dnV
 rw [decide_eq_true (by omega)]; simp
theorem un5 {n : Int} (h : I64 n) {k : Nat} (hk : k ≤ 1000) : IntKind.i64.wrap (dnV n k - 1) = dnV n (k + 1) := by
 unfold I64 at h
 rw [IntKind.wrap_i64]
 unfold dnV
 by_cases h1 : -9223372036854775808 ≤ n - (k : Int)
 ·by_cases h2 : -9223372036854775808 ≤ n - ((k + 1 : Nat) : Int)
  ·rw [decide_eq_true h1, decide_eq_true h2]; simp only [cond_true]; omega
  ·rw [decide_eq_true h1, decide_eq_false h2]; simp only [cond_true, cond_false]; omega
 ·have h2 : ¬ -9223372036854775808 ≤ n - ((k + 1 : Nat) : Int) := by omega
  rw [decide_eq_false h1, decide_eq_false h2]; simp only [cond_false]; omega
theorem ufz {n : Int} (h : I64 n) {k : Nat} (hk : k ≤ 1000) : dnV n k = 0 ↔ n = (k : Int) := by
 unfold I64 at h
 unfold dnV
 by_cases h1 : -9223372036854775808 ≤ n - (k : Int)
 ·rw [decide_eq_true h1]; simp only [cond_true]; omega
 ·rw [decide_eq_false h1]; simp only [cond_false]; omega
/-- so many are left; where the number is used up, nothing is -/
def dnG (G : Nat → Option GObj) (n : Nat) (k : Int) (l : Nat) : Nat → Option GObj := bif decide (0 ≤ k ∧ k < (l : Int)) then ay G n (.arr 0 0 0 0 0 []) else ay G n (.box l [.v (.int .i64 (dnV k l))])
theorem xz {G : Nat → Option GObj} {n : Nat} {k : Int} {l : Nat} (h : ¬ (0 ≤ k ∧ k < (l : Int))) : dnG G n k l = ay G n (.box l [.v (.int .i64 (dnV k l))]) := by unfold dnG; rw [decide_eq_false h]; rfl
theorem vf {G : Nat → Option GObj} {n : Nat} {k : Int} {l : Nat} (h : 0 ≤ k ∧ k < (l : Int)) : dnG G n k l n = some (.arr 0 0 0 0 0 []) := by unfold dnG; rw [decide_eq_true h]; exact ng _ _ _
theorem ukc {t : aj} {pre : List PW} {x : PW} (h : pre ++ [x] <+: fl t) : plAt t pre.length = x.1 := by
 obtain ⟨r, hr⟩ := h
 refine ucz (x := x) ?_
 rw [← hr, List.append_assoc, List.getElem?_append_right (Nat.le_refl _), Nat.sub_self]; rfl
end Go.AB
namespace Go.Proofs.YtgffhbbcpgdjjaaGreatDoor
set_option maxRecDepth 10000
open Go.RowKit Go.AB
open Go.AB.Enc (cells)
open Go.PB (bg aj PlaceD bn bq bp)
theorem umj (t : aj) : Pure Tryz.prog 20 [gp t] (.tup [.v (.int .i64 (te t)), .v (.int .i64 (fw t))]) := by
 refine di Tryz.func20 rfl (fun m => .tup (ct .v (ct .v dj))) fun G nx => ?_
 simp only [Tryz.ntmps20, List.length_cons, List.length_nil, Nat.reduceAdd, Nat.reduceSub]
 refine cp fun hlt => ?_
 dsimp only at hlt
 refine ar fun K1 hK1 => ?_
 refine aw ?_
 try dsimp only [St.put]
 refine af rfl (ip rfl rfl (by simp) ?_)
 refine aa rfl (bf rfl (by constructor)) ?_
 refine aa rfl (bf rfl (by constructor)) ?_
 refine av ?_
 dsimp only [St.put]
 refine hK1 _ ?_
 refine ar fun K2 hK2 => ?_
 refine aw ?_
 try dsimp only [St.put]
 first | refine ae rfl (bh rfl rfl) ?_ | refine ae rfl (aq rfl rfl (Enc.len _)) ?_ | refine ae rfl (aq rfl rfl rfl) ?_ | refine ae rfl (bz rfl rfl zG trivial (by first | rfl | assumption)) ?_ | refine ae rfl (ca rfl rfl zG trivial (by rfl)) ?_ | refine ae rfl (cg rfl rfl zG trivial (by simp)) ?_ | refine ae rfl (ax rfl rfl zG trivial (ci (by assumption) rfl)) ?_ | refine ae rfl (ax rfl rfl zG trivial (by assumption)) ?_ | refine ae rfl (cj rfl rfl zG trivial rfl (by assumption) rfl (by decide)) ?_ | refine ae rfl (cd rfl rfl zG (by rfl)) ?_
 try dsimp only [St.put]
 refine af rfl (bl rfl rfl rfl (ueh t) ?_)
 refine aa rfl (ba rfl (by constructor)) ?_
 refine aa rfl (ou rfl rfl rfl) ?_
 refine aa rfl (ou rfl rfl rfl) ?_
 refine aa rfl (bf rfl (by constructor)) ?_
 refine aa rfl (bf rfl (by constructor)) ?_
 refine av ?_
 dsimp only [St.put]
 refine hK2 _ ?_
 refine ar fun K3 hK3 => ?_
 refine ar fun K4 hK4 => ?_
 refine aw ?_
 refine aa rfl (ba rfl (by constructor)) ?_
 refine aa rfl (fq rfl rfl rfl) ?_
 refine av ?_
 dsimp only [St.put]
 refine hK4 _ ?_
 refine bd rfl (fun hc => ?_) (fun hc => ?_)
 ·have htx : c7 t = false := by
   cases h : c7 t
   ·rfl
   ·simp [fw, h] at hc
  refine ar fun K5 hK5 => ?_
  refine aw ?_
  refine aa rfl (ba rfl (by constructor)) ?_
  refine aa rfl (bf rfl (by constructor)) ?_
  refine aa rfl (bf rfl (by constructor)) ?_
  refine av ?_
  dsimp only [St.put]
  refine hK5 _ ?_
  refine bc ?_
  refine jk rfl (by constructor) (by constructor) zN zS ?_ ?_
  ·exact vi (by simp [te, htx])
  ·rfl
 ·have htx : c7 t = true := by
   cases h : c7 t
   ·simp [fw, h] at hc
   ·rfl
  rw [show ot t = .elem [lst t] by simp [ot, htx]]
  have hlen := yc htx
  refine bi ?_
  refine hK3 _ ?_
  refine ar fun K6 hK6 => ?_
  refine aw ?_
  try dsimp only [St.put]
  refine af rfl (dt rfl ?_)
  try dsimp only [St.put]
  first | refine af rfl (da rfl rfl rfl zG rfl rfl (by rfl) ?_) | refine af rfl (g7 rfl rfl rfl zG (by constructor) rfl zO ?_)
  refine av ?_
  dsimp only [St.put]
  refine hK6 _ ?_
  refine ar fun K7 hK7 => ?_
  refine ar fun K8 hK8 => ?_
  refine aw ?_
  refine aa rfl (ba rfl (by constructor)) ?_
  try dsimp only [St.put]
  refine af rfl (uav rfl rfl rfl (uej t _ _) ?_)
  refine av ?_
  dsimp only [St.put]
  refine hK8 _ ?_
  refine cb ?_
  refine dh 17 ?_
  refine zQ ?_
  refine du (ay G nx (.box 1 [.v (.int .i64 0)])) zX ?_
  dsimp only
  refine ugn (clP) [17, 18] (fun zs => ctG G nx zs) (fun _ _ (_ : Unit) => False) (fun _ => fun _ => none) (fun x => [(18, .v (.string x.2)), (17, .agg [.v (.int .i64 x.1.ch), .v (.int .i64 x.1.ln), .v (.int .i64 x.1.wd)])]) (ugw t) rfl rfl (fun _ => rfl) (ugy htx) ?_ ?_ ?_ (fun _ _ _ h => h.elim) (fun lr pre x hx hlen hpre => ?_) (fun _ _ _ _ h => h.elim) (?_)
  ·intro pre x
   rfl
  ·exact fun n o h => h
  ·intro zs
   unfold ctG
   exact zH
  ·unfold ctG
   refine bi ?_
   show AW _ _ _ _ _
   refine cb ?_
   refine aw ?_
   try dsimp only [St.put]
   first | refine ae rfl (bh rfl rfl) ?_ | refine ae rfl (aq rfl rfl (Enc.len _)) ?_ | refine ae rfl (aq rfl rfl rfl) ?_ | refine ae rfl (bz rfl rfl zG trivial (by first | rfl | assumption)) ?_ | refine ae rfl (ca rfl rfl zG trivial (by rfl)) ?_ | refine ae rfl (cg rfl rfl zG trivial (by simp)) ?_ | refine ae rfl (ax rfl rfl zG trivial (ci (by assumption) rfl)) ?_ | refine ae rfl (ax rfl rfl zG trivial (by assumption)) ?_ | refine ae rfl (cj rfl rfl zG trivial rfl (by assumption) rfl (by decide)) ?_ | refine ae rfl (cd rfl rfl zG (by rfl)) ?_
   first | refine aa rfl (cm rfl rfl rfl (by omega)) ?_ | refine aa rfl (il rfl rfl rfl) ?_
   try dsimp only [St.put]
   first | refine af rfl (da rfl rfl rfl zG rfl rfl (by rfl) ?_) | refine af rfl (g7 rfl rfl rfl zG (by constructor) rfl zO ?_)
   refine av ?_
   dsimp only [St.put]
   unfold qg yd
   dsimp only
   simp only [List.length_append, List.length_singleton]
   exact zX
  ·dsimp only
   unfold ctG
   refine hK7 _ ?_
   refine ar fun K9 hK9 => ?_
   refine aw ?_
   try dsimp only [St.put]
   first | refine ae rfl (bh rfl rfl) ?_ | refine ae rfl (aq rfl rfl (Enc.len _)) ?_ | refine ae rfl (aq rfl rfl rfl) ?_ | refine ae rfl (bz rfl rfl zG trivial (by first | rfl | assumption)) ?_ | refine ae rfl (ca rfl rfl zG trivial (by rfl)) ?_ | refine ae rfl (cg rfl rfl zG trivial (by simp)) ?_ | refine ae rfl (ax rfl rfl zG trivial (ci (by assumption) rfl)) ?_ | refine ae rfl (ax rfl rfl zG trivial (by assumption)) ?_ | refine ae rfl (cj rfl rfl zG trivial rfl (by assumption) rfl (by decide)) ?_ | refine ae rfl (cd rfl rfl zG (by rfl)) ?_
   refine aa rfl (bf rfl (by constructor)) ?_
   refine aa rfl (bf rfl (by constructor)) ?_
   refine av ?_
   dsimp only [St.put]
   refine hK9 _ ?_
   refine bc ?_
   refine jk rfl (by constructor) (by constructor) zN zS ?_ ?_
   ·exact vi (by simp [te, htx])
   ·exact vi (by simp [fw, htx])
theorem umk (t : aj) (n : Int) : Pure Tryz.prog 21 [gp t, .v (.int .i64 n)] (.tup [val (oo t n), .v (.int .i64 (nj t n))]) := by
 refine di Tryz.func21 rfl (fun m => .tup (ct (ey _ _) (ct .v dj))) fun G nx => ?_
 simp only [Tryz.ntmps21, List.length_cons, List.length_nil, Nat.reduceAdd, Nat.reduceSub]
 refine cp fun hlt => ?_
 dsimp only at hlt
 refine lf 1 (fun hf => ?_)
 replace hf := ueu hf
 unfold I64 at hf
 refine ar fun K1 hK1 => ?_
 refine aw ?_
 try dsimp only [St.put]
 refine af rfl (ip rfl rfl (by simp) ?_)
 try dsimp only [St.put]
 refine af rfl (xw rfl rfl ?_)
 try dsimp only [St.put]
 refine af rfl (dt rfl ?_)
 try dsimp only [St.put]
 refine af rfl (dt rfl ?_)
 refine av ?_
 dsimp only [St.put]
 refine hK1 _ ?_
 refine ar fun K2 hK2 => ?_
 refine aw ?_
 try dsimp only [St.put]
 first | refine ae rfl (bh rfl rfl) ?_ | refine ae rfl (aq rfl rfl (Enc.len _)) ?_ | refine ae rfl (aq rfl rfl rfl) ?_ | refine ae rfl (bz rfl rfl zG trivial (by first | rfl | assumption)) ?_ | refine ae rfl (ca rfl rfl zG trivial (by rfl)) ?_ | refine ae rfl (cg rfl rfl zG trivial (by simp)) ?_ | refine ae rfl (ax rfl rfl zG trivial (ci (by assumption) rfl)) ?_ | refine ae rfl (ax rfl rfl zG trivial (by assumption)) ?_ | refine ae rfl (cj rfl rfl zG trivial rfl (by assumption) rfl (by decide)) ?_ | refine ae rfl (cd rfl rfl zG (by rfl)) ?_
 try dsimp only [St.put]
 refine af rfl (bl rfl rfl rfl (ueh t) ?_)
 refine aa rfl (ba rfl (by constructor)) ?_
 refine aa rfl (ou rfl rfl rfl) ?_
 refine aa rfl (ou rfl rfl rfl) ?_
 refine aa rfl (bf rfl (by constructor)) ?_
 refine aa rfl (bf rfl (by constructor)) ?_
 refine av ?_
 dsimp only [St.put]
 refine hK2 _ ?_
 refine ar fun K3 hK3 => ?_
 refine ar fun K4 hK4 => ?_
 refine aw ?_
 refine aa rfl (ba rfl (by constructor)) ?_
 refine aa rfl (fq rfl rfl rfl) ?_
 refine av ?_
 dsimp only [St.put]
 refine hK4 _ ?_
 refine bd rfl (fun hc => ?_) (fun hc => ?_)
 ·have htx : c7 t = false := by
   cases h : c7 t
   ·rfl
   ·simp [fw, h] at hc
  refine ar fun K5 hK5 => ?_
  refine aw ?_
  refine aa rfl (ie rfl rfl) ?_
  refine aa rfl (ba rfl (by constructor)) ?_
  try dsimp only [St.put]
  first | refine af rfl (da rfl rfl rfl zG rfl rfl (by rfl) ?_) | refine af rfl (g7 rfl rfl rfl zG (by constructor) rfl zO ?_)
  try dsimp only [St.put]
  first | refine af rfl (da rfl rfl rfl zG rfl rfl (by rfl) ?_) | refine af rfl (g7 rfl rfl rfl zG (by constructor) rfl zO ?_)
  refine av ?_
  dsimp only [St.put]
  refine hK5 _ ?_
  refine bc ?_
  refine ii rfl (i9 rfl zG (by rfl) zC rfl) (i9 rfl zG (by rfl) zC rfl) zN zS ?_ ?_
  ·rw [show oo t n = ⟨0, 0, 0⟩ by simp [oo, nj, htx]]
   exact zW
  ·exact Wk.of_eq (vi (by simp [nj, fw, htx]))
 ·have htx : c7 t = true := by
   cases h : c7 t
   ·simp [fw, h] at hc
   ·rfl
  rw [show ot t = .elem [lst t] by simp [ot, htx]]
  have hlen := yc htx
  refine bi ?_
  refine hK3 _ ?_
  refine ar fun K6 hK6 => ?_
  refine ar fun K7 hK7 => ?_
  refine aw ?_
  refine aa rfl (ba rfl (by constructor)) ?_
  try dsimp only [St.put]
  refine af rfl (uav rfl rfl rfl (uej t _ _) ?_)
  refine av ?_
  dsimp only [St.put]
  refine hK7 _ ?_
  refine cb ?_
  refine dh 20 ?_
  refine zQ ?_
  refine du (ay (ay (ay G (nx + 1) (.box 0 [.v (.int .i64 0), .v (.int .i64 0), .v (.int .i64 0)])) (nx + 1 + 1) (.box 0 [.v (.int .i64 0)])) nx (.box 0 [.v (.int .i64 n)])) zX ?_
  dsimp only
  refine ugn (clP) [20, 21] (fun zs => dnG (ay (ay G (nx + 1) (.box 0 [.v (.int .i64 0), .v (.int .i64 0), .v (.int .i64 0)])) (nx + 1 + 1) (.box 0 [.v (.int .i64 0)])) nx n zs.length) (fun c zs (y : PlaceD × Nat) => c = .ret ∧ ∃ pre x, zs = pre ++ [x] ∧ y = (x.1, pre.length) ∧ n = (pre.length : Int)) (fun y => ay (ay G (nx + 1) (.box 1 (cells y.1))) (nx + 1 + 1) (.box 1 [.v (.int .i64 0)])) (fun x => [(21, .v (.string x.2)), (20, .agg [.v (.int .i64 x.1.ch), .v (.int .i64 x.1.ln), .v (.int .i64 x.1.wd)])]) (ugw t) rfl rfl (fun _ => rfl) (ugy htx) ?_ ?_ ?_ ?_ (fun lr pre x hx hlen hpre => ?_) ?_ (?_)
  ·intro pre x
   rfl
  ·intro j o h
   rw [xz (by simp), List.length_nil, un6 hf] at h
   exact h
  ·intro zs
   unfold dnG
   cases decide (0 ≤ n ∧ n < (zs.length : Int)) <;> exact zH
  ·intro c zs y hy
   exact zH
  ·by_cases hany : 0 ≤ n ∧ n < (pre.length : Int)
   ·exact vm (vf hany)
   dsimp only
   rw [xz hany]
   refine aw ?_
   try dsimp only [St.put]
   refine af rfl (dt rfl ?_)
   try dsimp only [St.put]
   first | refine af rfl (da rfl rfl rfl zG rfl rfl (by rfl) ?_) | refine af rfl (g7 rfl rfl rfl zG (by constructor) rfl zO ?_)
   refine av ?_
   dsimp only [St.put]
   show AW _ _ _ _ _
   refine cb ?_
   refine ar fun K8 hK8 => ?_
   refine ar fun K9 hK9 => ?_
   refine aw ?_
   try dsimp only [St.put]
   first | refine ae rfl (bh rfl rfl) ?_ | refine ae rfl (aq rfl rfl (Enc.len _)) ?_ | refine ae rfl (aq rfl rfl rfl) ?_ | refine ae rfl (bz rfl rfl zG trivial (by first | rfl | assumption)) ?_ | refine ae rfl (ca rfl rfl zG trivial (by rfl)) ?_ | refine ae rfl (cg rfl rfl zG trivial (by simp)) ?_ | refine ae rfl (ax rfl rfl zG trivial (ci (by assumption) rfl)) ?_ | refine ae rfl (ax rfl rfl zG trivial (by assumption)) ?_ | refine ae rfl (cj rfl rfl zG trivial rfl (by assumption) rfl (by decide)) ?_ | refine ae rfl (cd rfl rfl zG (by rfl)) ?_
   refine aa rfl (f3 rfl rfl rfl) ?_
   refine av ?_
   dsimp only [St.put]
   refine hK9 _ ?_
   refine bd rfl (fun hc => ?_) (fun hc => ?_)
   ·replace hc := of_decide_eq_true hc
    have hn : n = (pre.length : Int) := (ufz hf (by omega)).1 hc
    refine ar fun K10 hK10 => ?_
    refine aw ?_
    try dsimp only [St.put]
    first | refine ae rfl (bh rfl rfl) ?_ | refine ae rfl (aq rfl rfl (Enc.len _)) ?_ | refine ae rfl (aq rfl rfl rfl) ?_ | refine ae rfl (bz rfl rfl zG trivial (by first | rfl | assumption)) ?_ | refine ae rfl (ca rfl rfl zG trivial (by rfl)) ?_ | refine ae rfl (cg rfl rfl zG trivial (by simp)) ?_ | refine ae rfl (ax rfl rfl zG trivial (ci (by assumption) rfl)) ?_ | refine ae rfl (ax rfl rfl zG trivial (by assumption)) ?_ | refine ae rfl (cj rfl rfl zG trivial rfl (by assumption) rfl (by decide)) ?_ | refine ae rfl (cd rfl rfl zG (by rfl)) ?_
    try dsimp only [St.put]
    first | refine af rfl (da rfl rfl rfl zG rfl rfl (by rfl) ?_) | refine af rfl (g7 rfl rfl rfl zG (by constructor) rfl zO ?_)
    try dsimp only [St.put]
    first | refine af rfl (da rfl rfl rfl zG rfl rfl (by rfl) ?_) | refine af rfl (g7 rfl rfl rfl zG (by constructor) rfl zO ?_)
    refine av ?_
    dsimp only [St.put]
    refine hK10 _ ?_
    refine bc ?_
    exact ⟨(x.1, pre.length), ⟨rfl, pre, x, rfl, rfl, hn⟩, zX⟩
   ·replace hc := of_decide_eq_false hc
    have hn : ¬ n = (pre.length : Int) := fun e => hc ((ufz hf (by omega)).2 e)
    refine bi ?_
    refine hK8 _ ?_
    refine aw ?_
    try dsimp only [St.put]
    first | refine ae rfl (bh rfl rfl) ?_ | refine ae rfl (aq rfl rfl (Enc.len _)) ?_ | refine ae rfl (aq rfl rfl rfl) ?_ | refine ae rfl (bz rfl rfl zG trivial (by first | rfl | assumption)) ?_ | refine ae rfl (ca rfl rfl zG trivial (by rfl)) ?_ | refine ae rfl (cg rfl rfl zG trivial (by simp)) ?_ | refine ae rfl (ax rfl rfl zG trivial (ci (by assumption) rfl)) ?_ | refine ae rfl (ax rfl rfl zG trivial (by assumption)) ?_ | refine ae rfl (cj rfl rfl zG trivial rfl (by assumption) rfl (by decide)) ?_ | refine ae rfl (cd rfl rfl zG (by rfl)) ?_
    refine aa rfl (ru rfl rfl rfl) ?_
    try dsimp only [St.put]
    first | refine af rfl (da rfl rfl rfl zG rfl rfl (by rfl) ?_) | refine af rfl (g7 rfl rfl rfl zG (by constructor) rfl zO ?_)
    refine av ?_
    dsimp only [St.put]
    unfold qg yd
    dsimp only
    rw [xz (show ¬ (0 ≤ n ∧ n < ((pre ++ [x]).length : Int)) by rw [List.length_append, List.length_singleton]; omega)]
    rw [un5 hf (by omega)]
    simp only [List.length_append, List.length_singleton]
    exact zX
  ·rintro c pre y hpf ⟨rfl, pre', x, rfl, rfl, hn⟩
   have hpl := ukc hpf
   have hlt2 : pre'.length < (fl t).length := by have := hpf.length_le; simp at this; omega
   have hE : nj t n = 0 := by
    have : inB n 0 (((fl t).length : Int) - 1) = true := inB_true.2 (by omega)
    simp [nj, htx, this]
   have hV : oo t n = x.1 := by rw [oo, hE, hn]; simpa using hpl
   refine bc ?_
   refine ii rfl (i9 rfl zG (by rfl) zC rfl) (i9 rfl zG (by rfl) zC rfl) zN zS ?_ ?_
   ·rw [hV]; exact zW
   ·rw [hE]; exact zW
  ·dsimp only
   by_cases hin : 0 ≤ n ∧ n < ((fl t).length : Int)
   ·first | exact hK5 _ (vm (n := nx) (vf hin)) | exact hK6 _ (vm (n := nx) (vf hin)) | exact hK4 _ (vm (n := nx) (vf hin)) | exact hK3 _ (vm (n := nx) (vf hin))
   rw [xz hin]
   have hE : nj t n = 2 := by
    have : inB n 0 (((fl t).length : Int) - 1) = false := by rw [uw]; omega
    simp [nj, htx, this]
   have hV : oo t n = ⟨0, 0, 0⟩ := by simp [oo, hE]
   refine hK6 _ ?_
   refine ar fun K11 hK11 => ?_
   refine aw ?_
   refine aa rfl (ie rfl rfl) ?_
   try dsimp only [St.put]
   first | refine af rfl (da rfl rfl rfl zG rfl rfl (by rfl) ?_) | refine af rfl (g7 rfl rfl rfl zG (by constructor) rfl zO ?_)
   try dsimp only [St.put]
   first | refine af rfl (da rfl rfl rfl zG rfl rfl (by rfl) ?_) | refine af rfl (g7 rfl rfl rfl zG (by constructor) rfl zO ?_)
   refine av ?_
   dsimp only [St.put]
   refine hK11 _ ?_
   refine bc ?_
   refine ii rfl (i9 rfl zG (by rfl) zC rfl) (i9 rfl zG (by rfl) zC rfl) zN zS ?_ ?_
   ·rw [hV]; exact zW
   ·rw [hE]; exact zW
end Go.Proofs.YtgffhbbcpgdjjaaGreatDoor
namespace Go.AB
open Go Go.RowKit
open Go.AB.Enc (cells)
open Go.PB (bg aj PlaceD bn bq bp ck az ak dc ce)
/-- whether a place is one that either reader found, that both did -/
def bw (x : az) (q : PlaceD) : Bool := decide (q ∈ x.found) || decide (q ∈ x.well)
def bv (x : az) (q : PlaceD) : Bool := decide (q ∈ x.found) && decide (q ∈ x.well)
/-- how many of the first places are so -/
def kg (t : aj) (f : PlaceD → Bool) (k : Nat) : Nat := (((dn t).take k).filter f).length
theorem ua0 (t : aj) (f : PlaceD → Bool) : kg t f 0 = 0 := by simp [kg]
theorem cx {t : aj} {f : PlaceD → Bool} {k : Nat} {q : PlaceD} (h : (dn t)[k]? = some q) (hf : f q = true) : kg t f (k + 1) = kg t f k + 1 := by
 unfold kg
 rw [ufa h, hf]; rfl
theorem c6 {t : aj} {f : PlaceD → Bool} {k : Nat} {q : PlaceD} (h : (dn t)[k]? = some q) (hf : f q = false) : kg t f (k + 1) = kg t f k := by
 unfold kg
 rw [ufa h, hf]; rfl
theorem un9 (t : aj) (f : PlaceD → Bool) : kg t f (dn t).length = ((dn t).filter f).length := by unfold kg; rw [List.take_length]
theorem ua1 (t : aj) (f : PlaceD → Bool) (k : Nat) : kg t f k ≤ (dn t).length := by
 have h1 := List.length_filter_le f ((dn t).take k)
 have h2 : ((dn t).take k).length ≤ (dn t).length := List.length_take_le' _ _
 unfold kg
 omega
theorem uo8 {t : aj} (ht : c7 t = true) : 1 ≤ (dn t).length := by
 obtain ⟨h1, _, h2⟩ := lj ht
 obtain ⟨c, hc⟩ : ∃ c, t[0]? = some c := ⟨t[0], List.getElem?_eq_getElem (by omega)⟩
 obtain ⟨h3, _, h4⟩ := h2 c (List.mem_of_getElem? hc)
 obtain ⟨l, hl⟩ : ∃ l, c.lines[0]? = some l := ⟨c.lines[0], List.getElem?_eq_getElem (by omega)⟩
 obtain ⟨h5, _⟩ := h4 l (List.mem_of_getElem? hl)
 have := (ym hc hl l.length).length_le
 simp only [List.length_append, jd, List.length_mapIdx, List.take_length] at this
 unfold dn
 rw [List.length_map]
 omega
theorem pm {α : Type} {l : List α} {i : Nat} {y q : α} (h : l[i]? = some y) : q ∈ l.take (i + 1) ↔ q ∈ l.take i ∨ q = y := by
 rw [List.take_add_one, h, Option.toList_some, List.mem_append, List.mem_singleton]
end Go.AB
namespace Go.Proofs.YtgffhbbcpgdjjaaGreatDoor
set_option maxRecDepth 10000
open Go Go.RowKit Go.AB
open Go.AB.Enc (cells)
open Go.PB (bg aj PlaceD bn bq bp ck az ak dc ce)
theorem ukd (t : aj) (ht : c7 t = true) : Pure Tryz.prog 20 [gp t] (.tup [.v (.int .i64 ((dn t).length : Int)), .v (.int .i64 0)]) := by
 have := umj t
 rwa [show te t = ((dn t).length : Int) by simp [te, ht, dn], show fw t = 0 by simp [fw, ht]] at this
theorem uke (t : aj) (ht : c7 t = true) {i : Nat} {q : PlaceD} (hq : (dn t)[i]? = some q) : Pure Tryz.prog 21 [gp t, .v (.int .i64 (i : Int))] (.tup [val q, .v (.int .i64 0)]) := by
 have hx0 : ((fl t).map (·.1))[i]? = some q := hq
 rw [List.getElem?_map] at hx0
 obtain ⟨x, hx, rfl⟩ := Option.map_eq_some_iff.1 hx0
 have hlt := (List.getElem?_eq_some_iff.1 hx).1
 have hE : nj t (i : Int) = 0 := by
  have : inB (i : Int) 0 (((fl t).length : Int) - 1) = true := inB_true.2 (by omega)
  simp [nj, ht, this]
 have := umk t (i : Int)
 rwa [hE, show oo t (i : Int) = x.1 by simp [oo, hE, ucz hx]] at this
set_option maxHeartbeats 8000000 in
theorem ukj (p : ak) (a : Int) : fu 0 fm Tryz.prog 4 [val p, .v (.int .u8 a)] (.v (.bool true)) := fun G nx hF hnx => by
 refine ix (G) (nx) Tryz.func4 rfl (.v) zN (fun hlt => zH) ?_
 simp only [Tryz.ntmps4, List.length_cons, List.length_nil, Nat.reduceAdd, Nat.reduceSub]
 refine cp fun hlt => ?_
 dsimp only at hlt
 refine lf 1 (fun hfa => ?_)
 replace hfa := uh3 hfa
 refine yS fun _ K1 => ?_
 refine yR ?_
 try dsimp only [St.put]
 refine yB rfl rfl rfl ?_
 refine yA rfl rfl ?_
 refine yN ?_
 dsimp only [St.put]
 refine K1 _ ?_
 refine yS fun _ K2 => ?_
 refine yR ?_
 try dsimp only [St.put]
 refine af rfl ((eu rfl rfl rfl ((upi 0)) zG (by dsimp only [St.put]; omega) ?_))
 refine yA rfl rfl ?_
 refine yN ?_
 dsimp only [St.put]
 refine K2 _ ?_
 refine yS fun _ K3 => ?_
 refine yS fun _ K4 => ?_
 refine yR ?_
 refine yE rfl rfl rfl ?_
 try dsimp only [St.put]
 refine af rfl (bl rfl rfl rfl (umr p) ?_)
 refine aa rfl (ei rfl rfl) ?_
 refine er (fun hs => ?_) (fun hs => ?_)
 ·skip
  refine yM rfl rfl ?_
  refine yK rfl ?_
  refine yK rfl ?_
  refine yK rfl ?_
  refine yK rfl ?_
  refine aa rfl (cn rfl rfl (by constructor)) ?_
  refine yM rfl rfl ?_
  refine yK rfl ?_
  refine yK rfl ?_
  refine aa rfl (cn rfl rfl (by constructor)) ?_
  refine yN ?_
  dsimp only [St.put]
  refine K4 _ ?_
  refine bd rfl (fun _ => ?_) (fun h => by cases h)
  refine yS fun _ K5 => ?_
  refine yR ?_
  refine yM rfl rfl ?_
  refine yA rfl rfl ?_
  refine yN ?_
  dsimp only [St.put]
  refine K5 _ ?_
  refine bc ?_
  refine bx rfl (by constructor) zN zS ?_
  rfl
 have hrd : rk p = true := by simpa using hs
 have hC := (readyP_true.1 hrd).2
 obtain ⟨hok, _⟩ := mx hC
 have hnp := hok.np
 have ht := hok.text
 have hal := qc ht
 have hap := uo8 ht
 refine yM rfl rfl ?_
 refine yF rfl rfl rfl rfl ?_
 refine yL rfl rfl rfl ?_
 refine aa rfl (bj rfl rfl (List.length_map _)) ?_
 refine aa rfl (f3 rfl rfl rfl) ?_
 refine er (fun hs => ?_) (fun hs => ?_)
 ·skip
  refine aa rfl (cv rfl rfl (by constructor)) ?_
  refine yM rfl rfl ?_
  refine yK rfl ?_
  refine yK rfl ?_
  refine aa rfl (cn rfl rfl (by constructor)) ?_
  refine yN ?_
  dsimp only [St.put]
  refine K4 _ ?_
  refine bd rfl (fun _ => ?_) (fun h => by cases h)
  refine yS fun _ K6 => ?_
  refine yR ?_
  refine yM rfl rfl ?_
  refine yA rfl rfl ?_
  refine yN ?_
  dsimp only [St.put]
  refine K6 _ ?_
  refine bc ?_
  refine bx rfl (by constructor) zN zS ?_
  rfl
 have hne : p.pages.length ≠ 0 := by have := of_decide_eq_false hs; omega
 obtain ⟨i, x, hi, hx⟩ := ukl hfa.1 hne
 have hpt : (0 : Int) < (p.pages.length : Int) := by omega
 have hil := (List.getElem?_eq_some_iff.1 hx).1
 have hpo := pageB_true.1 (hok.page i x hx)
 have hfc := und hpo
 have hfl1 := u6 p.text x
 have hbl1 := ua6 p.text x
 refine aa rfl (cv rfl rfl (by constructor)) ?_
 refine yM rfl rfl ?_
 refine yM rfl rfl ?_
 refine aa rfl (ei rfl rfl) ?_
 refine aa rfl (cv rfl rfl (by constructor)) ?_
 refine yN ?_
 dsimp only [St.put]
 refine K4 _ ?_
 refine bd rfl (fun h => by cases h) (fun _ => ?_)
 refine bi ?_
 refine K3 _ ?_
 refine yS fun _ K7 => ?_
 refine yR ?_
 refine yM rfl rfl ?_
 refine aa rfl ((ulu rfl rfl rfl rfl (by omega))) ?_
 refine yF rfl rfl rfl rfl ?_
 refine yL rfl rfl rfl ?_
 refine aa rfl (bj rfl rfl (List.length_map _)) ?_
 refine aa rfl ((ulp hi rfl rfl rfl (by omega) hpt)) ?_
 refine yA rfl rfl ?_
 refine yN ?_
 dsimp only [St.put]
 refine K7 _ ?_
 refine yS fun _ K8 => ?_
 refine yR ?_
 refine yF rfl rfl rfl rfl ?_
 refine yL rfl rfl rfl ?_
 refine yM rfl rfl ?_
 try dsimp only [St.put]
 refine aa rfl ((bk rfl rfl rfl (by omega) (bu hx) (Enc.len _))) ?_
 refine yE rfl rfl rfl ?_
 try dsimp only [St.put]
 refine af rfl (dt rfl ?_)
 try dsimp only [St.put]
 refine af rfl (da rfl rfl rfl zG rfl rfl (by rfl) ?_)
 refine yN ?_
 dsimp only [St.put]
 refine K8 _ ?_
 refine gl (i := 7) rfl zG zC ?_
 dsimp only
 refine yS fun _ K9 => ?_
 refine yR ?_
 refine yE rfl rfl rfl ?_
 refine yM rfl rfl ?_
 try dsimp only [St.put]
 refine af rfl ((eu rfl rfl rfl ((umq 0 hC hx)) zG (by dsimp only [St.put]; omega) ?_))
 refine yM rfl rfl ?_
 refine yX rfl rfl rfl rfl ?_
 refine yX rfl rfl rfl rfl ?_
 refine yA rfl rfl ?_
 refine yA rfl rfl ?_
 refine yN ?_
 dsimp only [St.put]
 refine K9 _ ?_
 refine yS fun _ K10 => ?_
 refine yR ?_
 refine yE rfl rfl rfl ?_
 refine yM rfl rfl ?_
 try dsimp only [St.put]
 refine af rfl ((eu rfl rfl rfl ((ums 0 hC hx)) zG (by dsimp only [St.put]; omega) ?_))
 refine yM rfl rfl ?_
 refine yX rfl rfl rfl rfl ?_
 refine yX rfl rfl rfl rfl ?_
 refine yA rfl rfl ?_
 refine yA rfl rfl ?_
 refine yN ?_
 dsimp only [St.put]
 refine K10 _ ?_
 refine yS fun _ K11 => ?_
 refine yR ?_
 refine yE rfl rfl rfl ?_
 refine yM rfl rfl ?_
 try dsimp only [St.put]
 refine af rfl ((eu rfl rfl rfl ((lBoth 0 hC hx)) zG (by dsimp only [St.put]; omega) ?_))
 refine yM rfl rfl ?_
 refine yX rfl rfl rfl rfl ?_
 refine yX rfl rfl rfl rfl ?_
 refine yA rfl rfl ?_
 refine yA rfl rfl ?_
 refine yN ?_
 dsimp only [St.put]
 refine K11 _ ?_
 refine yS fun _ K12 => ?_
 refine yR ?_
 refine yF rfl rfl rfl rfl ?_
 try dsimp only [St.put]
 refine ae rfl (c := gp p.text) (jb (cs := cells p) rfl rfl (show 1 ≤ 4 by decide)) ?_
 try dsimp only [St.put]
 refine af rfl (bl rfl rfl rfl (ukd p.text ht) ?_)
 refine yM rfl rfl ?_
 refine yX rfl rfl rfl rfl ?_
 refine yX rfl rfl rfl rfl ?_
 refine yA rfl rfl ?_
 refine yA rfl rfl ?_
 refine yN ?_
 dsimp only [St.put]
 refine K12 _ ?_
 refine yS fun _ K13 => ?_
 refine yS fun _ K14 => ?_
 refine yR ?_
 refine yM rfl rfl ?_
 refine aa rfl ((eh (c := false) (fq rfl rfl rfl) (ud rfl))) ?_
 refine yM rfl rfl ?_
 refine yM rfl rfl ?_
 refine aa rfl ((eh (c := false) (fq rfl rfl rfl) (ud rfl))) ?_
 refine aa rfl (cv rfl rfl (by constructor)) ?_
 refine yM rfl rfl ?_
 refine yM rfl rfl ?_
 refine aa rfl ((eh (c := false) (fq rfl rfl rfl) (ud rfl))) ?_
 refine aa rfl (cv rfl rfl (by constructor)) ?_
 refine yM rfl rfl ?_
 refine yM rfl rfl ?_
 refine aa rfl ((eh (c := false) (fq rfl rfl rfl) (ud rfl))) ?_
 refine aa rfl (cv rfl rfl (by constructor)) ?_
 refine yM rfl rfl ?_
 refine yM rfl rfl ?_
 refine aa rfl ((eh (c := false) (c5 rfl rfl rfl) (decide_eq_false (by omega)))) ?_
 refine aa rfl (cv rfl rfl (by constructor)) ?_
 refine yM rfl rfl ?_
 refine yM rfl rfl ?_
 refine aa rfl ((eh (c := false) (im rfl rfl rfl) (decide_eq_false (by omega)))) ?_
 refine aa rfl (cv rfl rfl (by constructor)) ?_
 refine yN ?_
 dsimp only [St.put]
 refine K14 _ ?_
 refine bd rfl (fun h => by cases h) (fun _ => ?_)
 refine bi ?_
 refine K13 _ ?_
 refine yS fun _ K15 => ?_
 refine yR ?_
 refine yA rfl rfl ?_
 refine yA rfl rfl ?_
 refine yA rfl rfl ?_
 refine yN ?_
 dsimp only [St.put]
 refine K15 _ ?_
 refine yS fun _ K16 => ?_
 refine yS fun _ K17 => ?_
 refine yR ?_
 refine yM rfl rfl ?_
 refine yM rfl rfl ?_
 refine yN ?_
 dsimp only [St.put]
 refine K17 _ ?_
 refine cb ?_
 refine dh 103 ?_
 refine zQ ?_
 refine du (G) zX ?_
 dsimp only
 refine dz (X := Nat × Nat × Nat × Nat) (fun y => y.1 ≤ (dn p.text).length ∧ y.2.1 = kg p.text (em p.text x) y.1 ∧ y.2.2.1 = kg p.text (bw x) y.1 ∧ y.2.2.2 = kg p.text (bv x) y.1) (fun y => (dn p.text).length - y.1) (fun y => [(16, .v (.int .i64 (y.2.1 : Int))), (17, .v (.int .i64 (y.2.2.1 : Int))), (18, .v (.int .i64 (y.2.2.2 : Int))), (19, .any), (20, .any), (21, .any), (22, .any), (23, .any), (24, .any), (26, .any), (28, .any), (102, .v (.int .i64 (y.1 : Int)))]) (fun y G' => G') (0, 0, 0, 0) rfl ?_ ?_ (fun _ _ h => h) ?_ ?_ ?_
 ·exact ⟨Nat.zero_le _, (ua0 _ _).symm, (ua0 _ _).symm, (ua0 _ _).symm⟩
 ·exact zF
 ·rintro ⟨k, c, u, w⟩ hI
  exact zL
 ·exact fun _ _ _ _ h => .inl h
 rintro ⟨k, c, u, w⟩ hI
 dsimp only at hI ⊢
 refine yS fun _ K18 => ?_
 refine yR ?_
 refine aa rfl (c5 rfl rfl rfl) ?_
 refine yN ?_
 dsimp only [St.put]
 refine K18 _ ?_
 refine yS fun _ K19 => ?_
 refine bd rfl (fun hc => ?_) (fun hc => ?_)
 ·replace hc := of_decide_eq_true hc
  have hkl : k < (dn p.text).length := by omega
  obtain ⟨q, hq⟩ : ∃ q, (dn p.text)[k]? = some q := d8 hkl
  have hpl := allQ_mem.1 (g5 hq)
  have hub := ua1 p.text (bw x) k
  have hwb := ua1 p.text (bv x) k
  have hcb := ua1 p.text (em p.text x) k
  have hI1 := hI.2.1
  have hI2 := hI.2.2.1
  have hI3 := hI.2.2.2
  refine bi ?_
  refine K19 _ ?_
  refine yS fun _ K20 => ?_
  refine cb ?_
  refine yS fun _ K21 => ?_
  refine yR ?_
  refine yM rfl rfl ?_
  refine yA rfl rfl ?_
  refine yN ?_
  dsimp only [St.put]
  refine K21 _ ?_
  refine yS fun _ K22 => ?_
  refine yR ?_
  refine yF rfl rfl rfl rfl ?_
  try dsimp only [St.put]
  refine ae rfl (c := gp p.text) (jb (cs := cells p) rfl rfl (show 1 ≤ 4 by decide)) ?_
  refine yM rfl rfl ?_
  try dsimp only [St.put]
  refine af rfl (bl rfl rfl rfl (uke p.text ht hq) ?_)
  refine yM rfl rfl ?_
  refine yX rfl rfl rfl rfl ?_
  refine yX rfl rfl rfl rfl ?_
  try dsimp only [St.put]
  refine af rfl (dt rfl ?_)
  try dsimp only [St.put]
  refine af rfl (da rfl rfl rfl zG rfl rfl (by rfl) ?_)
  refine yA rfl rfl ?_
  refine yN ?_
  dsimp only [St.put]
  refine K22 _ ?_
  refine gl (i := 20) rfl zG zC ?_
  dsimp only
  refine yS fun _ K23 => ?_
  refine yS fun _ K24 => ?_
  refine yR ?_
  refine yM rfl rfl ?_
  refine aa rfl ((eh (c := false) (fq rfl rfl rfl) (ud rfl))) ?_
  refine yM rfl rfl ?_
  refine yF rfl rfl rfl rfl ?_
  try dsimp only [St.put]
  refine ae rfl (c := gp p.text) (jb (cs := cells p) rfl rfl (show 1 ≤ 4 by decide)) ?_
  refine yE rfl rfl rfl ?_
  try dsimp only [St.put]
  refine af rfl (bl rfl rfl rfl ((show AB.Pure Tryz.prog 22 [gp p.text, val q] (.v (.bool true)) from hpl ▸ ubh p.text q ht)) ?_)
  refine aa rfl (ei rfl rfl) ?_
  refine aa rfl (cv rfl rfl (by constructor)) ?_
  refine yN ?_
  dsimp only [St.put]
  refine K24 _ ?_
  refine bd rfl (fun h => by cases h) (fun _ => ?_)
  refine bi ?_
  refine K23 _ ?_
  refine yS fun _ K25 => ?_
  refine yS fun _ K26 => ?_
  refine yR ?_
  refine yF rfl rfl rfl rfl ?_
  try dsimp only [St.put]
  refine ae rfl (c := gp p.text) (jb (cs := cells p) rfl rfl (show 1 ≤ 4 by decide)) ?_
  refine yE rfl rfl rfl ?_
  try dsimp only [St.put]
  refine af rfl (bl rfl rfl rfl (zh p.text q ht hpl) ?_)
  refine yA rfl rfl ?_
  refine yN ?_
  dsimp only [St.put]
  refine K26 _ ?_
  refine yS fun _ K27 => ?_
  refine yR ?_
  refine yM rfl rfl ?_
  refine yF rfl rfl rfl rfl ?_
  refine yL rfl rfl rfl ?_
  refine aa rfl (c5 rfl rfl rfl) ?_
  refine er (fun hs => ?_) (fun hs => ?_)
  ·have hlo := of_decide_eq_true hs
   refine yM rfl rfl ?_
   refine yK rfl ?_
   refine yK rfl ?_
   refine yK rfl ?_
   refine yK rfl ?_
   refine aa rfl (cn rfl rfl (by constructor)) ?_
   refine yN ?_
   dsimp only [St.put]
   refine K27 _ ?_
   refine bd rfl (fun _ => ?_) (fun h => by cases h)
   first
   | (have hoff : em p.text x q = false := by
          unfold em
          rw [uw]
          omega)
   | (have hhi := of_decide_eq_true hc
      have hoff : em p.text x q = false := by
          unfold em
          rw [uw]
          omega)
   refine dq ?_
   refine K20 _ ?_
   refine yR ?_
   refine aa rfl (cm rfl rfl rfl (by omega)) ?_
   refine yM rfl rfl ?_
   refine yN ?_
   dsimp only [St.put]
   first
   | (have ho : em p.text x q = false := hoff
      have hfo := mq hpo ho
      have e1 : bw x q = false := by unfold bw; rw [decide_eq_false hfo.1, decide_eq_false hfo.2]; rfl
      have e2 : bv x q = false := by unfold bv; rw [decide_eq_false hfo.1]; rfl
      exact ⟨(k + 1, c, u, w), by (dsimp only; omega), ⟨by (dsimp only; omega), by (rw [c6 hq ho]; exact hI.2.1), by (rw [c6 hq e1]; exact hI.2.2.1), by (rw [c6 hq e2]; exact hI.2.2.2)⟩, ⟨⟨rfl, rfl⟩, zF, zB, zN, zX⟩⟩)
   | exact absurd (hA1.symm.trans hC0) (by decide)
   | exact absurd (hC1.symm.trans hA0) (by decide)
   | (have z1 : d1 = true := hA1
      have z2 : d2 = true := hD1
      have e1 : bw x q = true := by unfold bw; rw [← hd1, z1]; rfl
      have e2 : bv x q = true := by unfold bv; rw [← hd1, ← hd2, z1, z2]; rfl
      exact ⟨(k + 1, c + 1, u + 1, w + 1), by (dsimp only; omega), ⟨by (dsimp only; omega), by (rw [cx hq hon, ← hI.2.1]), by (rw [cx hq e1, ← hI.2.2.1]), by (rw [cx hq e2, ← hI.2.2.2])⟩, ⟨⟨rfl, rfl⟩, zF, zB, zN, zX⟩⟩)
   | (have z1 : d1 = true := hA1
      have z2 : d2 = false := hD0
      have e1 : bw x q = true := by unfold bw; rw [← hd1, z1]; rfl
      have e2 : bv x q = false := by unfold bv; rw [← hd1, ← hd2, z1, z2]; rfl
      exact ⟨(k + 1, c + 1, u + 1, w), by (dsimp only; omega), ⟨by (dsimp only; omega), by (rw [cx hq hon, ← hI.2.1]), by (rw [cx hq e1, ← hI.2.2.1]), by (rw [c6 hq e2]; exact hI.2.2.2)⟩, ⟨⟨rfl, rfl⟩, zF, zB, zN, zX⟩⟩)
   | (have z1 : d1 = false := hA0
      have z2 : d2 = true := hB1
      have e1 : bw x q = true := by unfold bw; rw [← hd1, ← hd2, z1, z2]; rfl
      have e2 : bv x q = false := by unfold bv; rw [← hd1, z1]; rfl
      exact ⟨(k + 1, c + 1, u + 1, w), by (dsimp only; omega), ⟨by (dsimp only; omega), by (rw [cx hq hon, ← hI.2.1]), by (rw [cx hq e1, ← hI.2.2.1]), by (rw [c6 hq e2]; exact hI.2.2.2)⟩, ⟨⟨rfl, rfl⟩, zF, zB, zN, zX⟩⟩)
   | (have z1 : d1 = false := hA0
      have z2 : d2 = false := hB0
      have e1 : bw x q = false := by unfold bw; rw [← hd1, ← hd2, z1, z2]; rfl
      have e2 : bv x q = false := by unfold bv; rw [← hd1, z1]; rfl
      exact ⟨(k + 1, c + 1, u, w), by (dsimp only; omega), ⟨by (dsimp only; omega), by (rw [cx hq hon, ← hI.2.1]), by (rw [c6 hq e1]; exact hI.2.2.1), by (rw [c6 hq e2]; exact hI.2.2.2)⟩, ⟨⟨rfl, rfl⟩, zF, zB, zN, zX⟩⟩)
  have hlo := of_decide_eq_false hs
  refine yM rfl rfl ?_
  refine yM rfl rfl ?_
  refine yF rfl rfl rfl rfl ?_
  refine yL rfl rfl rfl ?_
  refine aa rfl (im rfl rfl rfl) ?_
  refine aa rfl (cv rfl rfl (by constructor)) ?_
  refine yN ?_
  dsimp only [St.put]
  refine K27 _ ?_
  refine bd rfl (fun hc => ?_) (fun hc => ?_)
  ·first
   | (have hoff : em p.text x q = false := by
          unfold em
          rw [uw]
          omega)
   | (have hhi := of_decide_eq_true hc
      have hoff : em p.text x q = false := by
          unfold em
          rw [uw]
          omega)
   refine dq ?_
   refine K20 _ ?_
   refine yR ?_
   refine aa rfl (cm rfl rfl rfl (by omega)) ?_
   refine yM rfl rfl ?_
   refine yN ?_
   dsimp only [St.put]
   first
   | (have ho : em p.text x q = false := hoff
      have hfo := mq hpo ho
      have e1 : bw x q = false := by unfold bw; rw [decide_eq_false hfo.1, decide_eq_false hfo.2]; rfl
      have e2 : bv x q = false := by unfold bv; rw [decide_eq_false hfo.1]; rfl
      exact ⟨(k + 1, c, u, w), by (dsimp only; omega), ⟨by (dsimp only; omega), by (rw [c6 hq ho]; exact hI.2.1), by (rw [c6 hq e1]; exact hI.2.2.1), by (rw [c6 hq e2]; exact hI.2.2.2)⟩, ⟨⟨rfl, rfl⟩, zF, zB, zN, zX⟩⟩)
   | exact absurd (hA1.symm.trans hC0) (by decide)
   | exact absurd (hC1.symm.trans hA0) (by decide)
   | (have z1 : d1 = true := hA1
      have z2 : d2 = true := hD1
      have e1 : bw x q = true := by unfold bw; rw [← hd1, z1]; rfl
      have e2 : bv x q = true := by unfold bv; rw [← hd1, ← hd2, z1, z2]; rfl
      exact ⟨(k + 1, c + 1, u + 1, w + 1), by (dsimp only; omega), ⟨by (dsimp only; omega), by (rw [cx hq hon, ← hI.2.1]), by (rw [cx hq e1, ← hI.2.2.1]), by (rw [cx hq e2, ← hI.2.2.2])⟩, ⟨⟨rfl, rfl⟩, zF, zB, zN, zX⟩⟩)
   | (have z1 : d1 = true := hA1
      have z2 : d2 = false := hD0
      have e1 : bw x q = true := by unfold bw; rw [← hd1, z1]; rfl
      have e2 : bv x q = false := by unfold bv; rw [← hd1, ← hd2, z1, z2]; rfl
      exact ⟨(k + 1, c + 1, u + 1, w), by (dsimp only; omega), ⟨by (dsimp only; omega), by (rw [cx hq hon, ← hI.2.1]), by (rw [cx hq e1, ← hI.2.2.1]), by (rw [c6 hq e2]; exact hI.2.2.2)⟩, ⟨⟨rfl, rfl⟩, zF, zB, zN, zX⟩⟩)
   | (have z1 : d1 = false := hA0
      have z2 : d2 = true := hB1
      have e1 : bw x q = true := by unfold bw; rw [← hd1, ← hd2, z1, z2]; rfl
      have e2 : bv x q = false := by unfold bv; rw [← hd1, z1]; rfl
      exact ⟨(k + 1, c + 1, u + 1, w), by (dsimp only; omega), ⟨by (dsimp only; omega), by (rw [cx hq hon, ← hI.2.1]), by (rw [cx hq e1, ← hI.2.2.1]), by (rw [c6 hq e2]; exact hI.2.2.2)⟩, ⟨⟨rfl, rfl⟩, zF, zB, zN, zX⟩⟩)
   | (have z1 : d1 = false := hA0
      have z2 : d2 = false := hB0
      have e1 : bw x q = false := by unfold bw; rw [← hd1, ← hd2, z1, z2]; rfl
      have e2 : bv x q = false := by unfold bv; rw [← hd1, z1]; rfl
      exact ⟨(k + 1, c + 1, u, w), by (dsimp only; omega), ⟨by (dsimp only; omega), by (rw [cx hq hon, ← hI.2.1]), by (rw [c6 hq e1]; exact hI.2.2.1), by (rw [c6 hq e2]; exact hI.2.2.2)⟩, ⟨⟨rfl, rfl⟩, zF, zB, zN, zX⟩⟩)
  have hhi := of_decide_eq_false hc
  have hon : em p.text x q = true := by
   unfold em
   rw [inB_true]
   omega
  refine bi ?_
  refine K25 _ ?_
  refine yS fun _ K28 => ?_
  refine yR ?_
  refine yM rfl rfl ?_
  refine aa rfl (cm rfl rfl rfl (by omega)) ?_
  refine yA rfl rfl ?_
  refine yN ?_
  dsimp only [St.put]
  refine K28 _ ?_
  refine yS fun _ K29 => ?_
  refine yR ?_
  refine yA rfl rfl ?_
  refine yA rfl rfl ?_
  refine yN ?_
  dsimp only [St.put]
  refine K29 _ ?_
  refine yS fun _ K30 => ?_
  refine yS fun _ K31 => ?_
  refine yR ?_
  refine yF rfl rfl rfl rfl ?_
  refine yL rfl rfl rfl ?_
  refine aa rfl (bj rfl rfl (List.length_map _)) ?_
  refine yM rfl rfl ?_
  refine yN ?_
  dsimp only [St.put]
  refine K31 _ ?_
  refine cb ?_
  refine dh 141 ?_
  refine zQ ?_
  refine du (G) zX ?_
  dsimp only
  refine dz (X := Nat × Bool) (fun z => z.1 ≤ x.found.length ∧ z.2 = decide (q ∈ x.found.take z.1)) (fun z => x.found.length - z.1) (fun z => [(23, .v (.bool z.2)), (26, .any), (140, .v (.int .i64 (z.1 : Int)))]) (fun z G' => G') (0, false) rfl ?_ ?_ (fun _ _ h => h) ?_ ?_ ?_
  ·exact ⟨Nat.zero_le _, by simp⟩
  ·exact zF
  ·rintro ⟨j, d1⟩ hI
   exact zL
  ·exact fun _ _ _ _ h => .inl h
  rintro ⟨j, d1⟩ hJ
  dsimp only at hJ ⊢
  refine yS fun _ K32 => ?_
  refine yR ?_
  refine aa rfl (c5 rfl rfl rfl) ?_
  refine yN ?_
  dsimp only [St.put]
  refine K32 _ ?_
  refine yS fun _ K33 => ?_
  refine bd rfl (fun hc => ?_) (fun hc => ?_)
  ·replace hc := of_decide_eq_true hc
   obtain ⟨yj, hyj⟩ : ∃ y, x.found[j]? = some y := d8 (by omega)
   refine bi ?_
   refine K33 _ ?_
   refine yS fun _ K34 => ?_
   refine cb ?_
   refine yS fun _ K35 => ?_
   refine yR ?_
   refine aa rfl (bk rfl rfl rfl rfl (bu (by assumption)) (Enc.len _)) ?_
   refine yE rfl rfl rfl ?_
   try dsimp only [St.put]
   refine af rfl (dt rfl ?_)
   try dsimp only [St.put]
   refine af rfl (da rfl rfl rfl zG rfl rfl (by rfl) ?_)
   refine yN ?_
   dsimp only [St.put]
   refine K35 _ ?_
   refine gl (i := 26) rfl zG zC ?_
   dsimp only
   refine yR ?_
   refine yM rfl rfl ?_
   refine yM rfl rfl ?_
   refine er (fun hs => ?_) (fun hs => ?_)
   ·have hE1 : d1 = true := hs
    refine yK rfl ?_
    refine yK rfl ?_
    refine yK rfl ?_
    refine aa rfl (cn rfl rfl (by constructor)) ?_
    refine yA rfl rfl ?_
    refine yN ?_
    dsimp only [St.put]
    refine K34 _ ?_
    refine yR ?_
    refine aa rfl (cm rfl rfl rfl (by omega)) ?_
    refine yM rfl rfl ?_
    refine yN ?_
    dsimp only [St.put]
    first
    | (have z1 : d1 = true := hE1
       exact ⟨(j + 1, true), by (dsimp only; omega), ⟨by (dsimp only; omega), by (have h2 := hJ.2; rw [z1] at h2; refine (decide_eq_true ?_).symm; exact (pm hyj).2 (.inl (of_decide_eq_true h2.symm)))⟩, ⟨⟨rfl, rfl⟩, zF, zB, zN, zX⟩⟩)
    | (have z1 : d1 = false := hE0
       exact ⟨(j + 1, decide (yj = q)), by (dsimp only; omega), ⟨by (dsimp only; omega), by (have h2 := hJ.2; rw [z1] at h2; have h3 := of_decide_eq_false h2.symm; rw [decide_eq_decide, pm hyj]; exact ⟨fun e => .inr e.symm, fun e => e.elim (fun e => absurd e h3) fun e => e.symm⟩)⟩, ⟨⟨rfl, rfl⟩, zF, zB, zN, zX⟩⟩)
   have hE0 : d1 = false := hs
   refine yE rfl rfl rfl ?_
   refine yE rfl rfl rfl ?_
   refine aa rfl (ky rfl rfl rfl) ?_
   refine aa rfl (cv rfl rfl (by constructor)) ?_
   refine yA rfl rfl ?_
   refine yN ?_
   dsimp only [St.put]
   refine K34 _ ?_
   refine yR ?_
   refine aa rfl (cm rfl rfl rfl (by omega)) ?_
   refine yM rfl rfl ?_
   refine yN ?_
   dsimp only [St.put]
   first
   | (have z1 : d1 = true := hE1
      exact ⟨(j + 1, true), by (dsimp only; omega), ⟨by (dsimp only; omega), by (have h2 := hJ.2; rw [z1] at h2; refine (decide_eq_true ?_).symm; exact (pm hyj).2 (.inl (of_decide_eq_true h2.symm)))⟩, ⟨⟨rfl, rfl⟩, zF, zB, zN, zX⟩⟩)
   | (have z1 : d1 = false := hE0
      exact ⟨(j + 1, decide (yj = q)), by (dsimp only; omega), ⟨by (dsimp only; omega), by (have h2 := hJ.2; rw [z1] at h2; have h3 := of_decide_eq_false h2.symm; rw [decide_eq_decide, pm hyj]; exact ⟨fun e => .inr e.symm, fun e => e.elim (fun e => absurd e h3) fun e => e.symm⟩)⟩, ⟨⟨rfl, rfl⟩, zF, zB, zN, zX⟩⟩)
  replace hc := of_decide_eq_false hc
  have hd1 : d1 = decide (q ∈ x.found) := by have h2 := hJ.2; rwa [g9 (show x.found.length ≤ j by omega)] at h2
  refine dq ?_
  refine K30 _ ?_
  refine yS fun _ K36 => ?_
  refine yS fun _ K37 => ?_
  refine yR ?_
  refine yF rfl rfl rfl rfl ?_
  refine yL rfl rfl rfl ?_
  refine aa rfl (bj rfl rfl (List.length_map _)) ?_
  refine yM rfl rfl ?_
  refine yN ?_
  dsimp only [St.put]
  refine K37 _ ?_
  refine cb ?_
  refine dh 155 ?_
  refine zQ ?_
  refine du (G) zX ?_
  dsimp only
  refine dz (X := Nat × Bool) (fun z => z.1 ≤ x.well.length ∧ z.2 = decide (q ∈ x.well.take z.1)) (fun z => x.well.length - z.1) (fun z => [(24, .v (.bool z.2)), (28, .any), (154, .v (.int .i64 (z.1 : Int)))]) (fun z G' => G') (0, false) rfl ?_ ?_ (fun _ _ h => h) ?_ ?_ ?_
  ·exact ⟨Nat.zero_le _, by simp⟩
  ·exact zF
  ·rintro ⟨g, d2⟩ hI
   exact zL
  ·exact fun _ _ _ _ h => .inl h
  rintro ⟨g, d2⟩ hM
  dsimp only at hM ⊢
  refine yS fun _ K38 => ?_
  refine yR ?_
  refine aa rfl (c5 rfl rfl rfl) ?_
  refine yN ?_
  dsimp only [St.put]
  refine K38 _ ?_
  refine yS fun _ K39 => ?_
  refine bd rfl (fun hc => ?_) (fun hc => ?_)
  ·replace hc := of_decide_eq_true hc
   obtain ⟨yj, hyj⟩ : ∃ y, x.well[g]? = some y := d8 (by omega)
   refine bi ?_
   refine K39 _ ?_
   refine yS fun _ K40 => ?_
   refine cb ?_
   refine yS fun _ K41 => ?_
   refine yR ?_
   refine aa rfl (bk rfl rfl rfl rfl (bu (by assumption)) (Enc.len _)) ?_
   refine yE rfl rfl rfl ?_
   try dsimp only [St.put]
   refine af rfl (dt rfl ?_)
   try dsimp only [St.put]
   refine af rfl (da rfl rfl rfl zG rfl rfl (by rfl) ?_)
   refine yN ?_
   dsimp only [St.put]
   refine K41 _ ?_
   refine gl (i := 28) rfl zG zC ?_
   dsimp only
   refine yR ?_
   refine yM rfl rfl ?_
   refine yM rfl rfl ?_
   refine er (fun hs => ?_) (fun hs => ?_)
   ·have hE1 : d2 = true := hs
    refine yK rfl ?_
    refine yK rfl ?_
    refine yK rfl ?_
    refine aa rfl (cn rfl rfl (by constructor)) ?_
    refine yA rfl rfl ?_
    refine yN ?_
    dsimp only [St.put]
    refine K40 _ ?_
    refine yR ?_
    refine aa rfl (cm rfl rfl rfl (by omega)) ?_
    refine yM rfl rfl ?_
    refine yN ?_
    dsimp only [St.put]
    first
    | (have z1 : d2 = true := hE1
       exact ⟨(g + 1, true), by (dsimp only; omega), ⟨by (dsimp only; omega), by (have h2 := hM.2; rw [z1] at h2; refine (decide_eq_true ?_).symm; exact (pm hyj).2 (.inl (of_decide_eq_true h2.symm)))⟩, ⟨⟨rfl, rfl⟩, zF, zB, zN, zX⟩⟩)
    | (have z1 : d2 = false := hE0
       exact ⟨(g + 1, decide (yj = q)), by (dsimp only; omega), ⟨by (dsimp only; omega), by (have h2 := hM.2; rw [z1] at h2; have h3 := of_decide_eq_false h2.symm; rw [decide_eq_decide, pm hyj]; exact ⟨fun e => .inr e.symm, fun e => e.elim (fun e => absurd e h3) fun e => e.symm⟩)⟩, ⟨⟨rfl, rfl⟩, zF, zB, zN, zX⟩⟩)
   have hE0 : d2 = false := hs
   refine yE rfl rfl rfl ?_
   refine yE rfl rfl rfl ?_
   refine aa rfl (ky rfl rfl rfl) ?_
   refine aa rfl (cv rfl rfl (by constructor)) ?_
   refine yA rfl rfl ?_
   refine yN ?_
   dsimp only [St.put]
   refine K40 _ ?_
   refine yR ?_
   refine aa rfl (cm rfl rfl rfl (by omega)) ?_
   refine yM rfl rfl ?_
   refine yN ?_
   dsimp only [St.put]
   first
   | (have z1 : d2 = true := hE1
      exact ⟨(g + 1, true), by (dsimp only; omega), ⟨by (dsimp only; omega), by (have h2 := hM.2; rw [z1] at h2; refine (decide_eq_true ?_).symm; exact (pm hyj).2 (.inl (of_decide_eq_true h2.symm)))⟩, ⟨⟨rfl, rfl⟩, zF, zB, zN, zX⟩⟩)
   | (have z1 : d2 = false := hE0
      exact ⟨(g + 1, decide (yj = q)), by (dsimp only; omega), ⟨by (dsimp only; omega), by (have h2 := hM.2; rw [z1] at h2; have h3 := of_decide_eq_false h2.symm; rw [decide_eq_decide, pm hyj]; exact ⟨fun e => .inr e.symm, fun e => e.elim (fun e => absurd e h3) fun e => e.symm⟩)⟩, ⟨⟨rfl, rfl⟩, zF, zB, zN, zX⟩⟩)
  replace hc := of_decide_eq_false hc
  have hd2 : d2 = decide (q ∈ x.well) := by have h2 := hM.2; rwa [g9 (show x.well.length ≤ g by omega)] at h2
  refine dq ?_
  refine K36 _ ?_
  refine yS fun _ K42 => ?_
  refine yS fun _ K43 => ?_
  refine yR ?_
  refine yM rfl rfl ?_
  refine yM rfl rfl ?_
  refine er (fun hs => ?_) (fun hs => ?_)
  ·have hA1 : d1 = true := hs
   have hone : bw x q = true := by unfold bw; rw [← hd1, hA1]; rfl
   have hat := sg (f := bw x) hq hone
   have hal2 := (List.getElem?_eq_some_iff.1 hat).1
   refine yK rfl ?_
   refine aa rfl (cn rfl rfl (by constructor)) ?_
   refine yN ?_
   dsimp only [St.put]
   refine K43 _ ?_
   refine bd rfl (fun _ => ?_) (fun h => by cases h)
   first
   | exact hnever
   | skip
   first
   | (have hB1 : d2 = true := hc
      have hone : bw x q = true := by unfold bw; rw [← hd1, ← hd2, hA0, hB1]; rfl
      have hat := sg (f := bw x) hq hone
      have hal2 := (List.getElem?_eq_some_iff.1 hat).1)
   | skip
   refine yS fun _ K44 => ?_
   refine yS fun _ K45 => ?_
   refine g8 [(0, none), (1, none), (2, none), (3, none), (4, none), (5, none), (6, none), (7, none), (8, none), (9, none), (10, none), (11, none)] (fun i => [].contains i) (fun i => [].contains i) (fun i => [0, 1, 2, 3, 4, 5, 6, 7, 10, 11].contains i) [] (by kernel_rfl) (by kernel_rfl) ?_
   refine xM rfl rfl rfl rfl rfl ?_
   refine xM rfl rfl rfl rfl rfl ?_
   refine ah rfl rfl rfl rfl (bj rfl rfl (List.length_map _)) ?_
   refine ah rfl rfl rfl rfl ((eh (c := false) (kx rfl rfl rfl) (decide_eq_false (by rw [hI2]; show ¬ ((((dn p.text).filter (bw x)).length : Int) ≤ ((((dn p.text).take k).filter (bw x)).length : Int)); omega)))) ?_
   refine xM rfl rfl rfl rfl rfl ?_
   refine xM rfl rfl rfl rfl rfl ?_
   refine xM rfl rfl rfl rfl rfl ?_
   try dsimp only [St.put]
   refine ah rfl rfl rfl rfl ((bk (k := u) rfl rfl rfl rfl (bu (by rw [hI2]; exact hat)) (Enc.len _))) ?_
   try dsimp only [St.put]
   refine ai rfl rfl rfl rfl (aq rfl rfl (Enc.len _)) ?_
   try dsimp only [St.put]
   refine ai rfl rfl rfl rfl (aq rfl rfl (Enc.len _)) ?_
   refine ah rfl rfl rfl rfl ((eh (c := false) (rx (x := q) (y := q) rfl rfl rfl) (by rw [decide_eq_true rfl]; rfl))) ?_
   refine ah rfl rfl rfl rfl (cv rfl rfl (by constructor)) ?_
   refine cz ?_
   dsimp only [St.put]
   refine K45 _ ?_
   refine bd rfl (fun h => by cases h) (fun _ => ?_)
   refine bi ?_
   refine K44 _ ?_
   refine yR ?_
   refine yM rfl rfl ?_
   refine aa rfl (cm rfl rfl rfl (by omega)) ?_
   refine yA rfl rfl ?_
   refine yN ?_
   dsimp only [St.put]
   refine K42 _ ?_
   refine yS fun _ K46 => ?_
   refine yR ?_
   refine yM rfl rfl ?_
   refine yM rfl rfl ?_
   refine er (fun hs => ?_) (fun hs => ?_)
   ·have hC1 : d1 = true := hs
    refine yM rfl rfl ?_
    refine aa rfl (cn rfl rfl (by constructor)) ?_
    refine yN ?_
    dsimp only [St.put]
    refine K46 _ ?_
    refine bd rfl (fun hc => ?_) (fun hc => ?_)
    ·have hD1 : d2 = true := hc
     have htwo : bv x q = true := by unfold bv; rw [← hd1, ← hd2, hC1, hD1]; rfl
     have hbt := sg (f := bv x) hq htwo
     have hbl2 := (List.getElem?_eq_some_iff.1 hbt).1
     refine yS fun _ K47 => ?_
     refine yS fun _ K48 => ?_
     refine g8 [(0, none), (1, none), (2, none), (3, none), (4, none), (5, none), (6, none), (7, none), (8, none), (9, none), (10, none), (11, none)] (fun i => [].contains i) (fun i => [].contains i) (fun i => [0, 1, 2, 3, 4, 5, 6, 7, 10, 11].contains i) [] (by kernel_rfl) (by kernel_rfl) ?_
     refine xM rfl rfl rfl rfl rfl ?_
     refine xM rfl rfl rfl rfl rfl ?_
     refine ah rfl rfl rfl rfl (bj rfl rfl (List.length_map _)) ?_
     refine ah rfl rfl rfl rfl ((eh (c := false) (kx rfl rfl rfl) (decide_eq_false (by rw [hI3]; show ¬ ((((dn p.text).filter (bv x)).length : Int) ≤ ((((dn p.text).take k).filter (bv x)).length : Int)); omega)))) ?_
     refine xM rfl rfl rfl rfl rfl ?_
     refine xM rfl rfl rfl rfl rfl ?_
     refine xM rfl rfl rfl rfl rfl ?_
     try dsimp only [St.put]
     refine ah rfl rfl rfl rfl ((bk (k := w) rfl rfl rfl rfl (bu (by rw [hI3]; exact hbt)) (Enc.len _))) ?_
     try dsimp only [St.put]
     refine ai rfl rfl rfl rfl (aq rfl rfl (Enc.len _)) ?_
     try dsimp only [St.put]
     refine ai rfl rfl rfl rfl (aq rfl rfl (Enc.len _)) ?_
     refine ah rfl rfl rfl rfl ((eh (c := false) (rx (x := q) (y := q) rfl rfl rfl) (by rw [decide_eq_true rfl]; rfl))) ?_
     refine ah rfl rfl rfl rfl (cv rfl rfl (by constructor)) ?_
     refine cz ?_
     dsimp only [St.put]
     refine K48 _ ?_
     refine bd rfl (fun h => by cases h) (fun _ => ?_)
     refine bi ?_
     refine K47 _ ?_
     refine yR ?_
     refine yM rfl rfl ?_
     refine aa rfl (cm rfl rfl rfl (by omega)) ?_
     refine yA rfl rfl ?_
     refine yN ?_
     dsimp only [St.put]
     refine K20 _ ?_
     refine yR ?_
     refine aa rfl (cm rfl rfl rfl (by omega)) ?_
     refine yM rfl rfl ?_
     refine yN ?_
     dsimp only [St.put]
     first
     | (have ho : em p.text x q = false := hoff
        have hfo := mq hpo ho
        have e1 : bw x q = false := by unfold bw; rw [decide_eq_false hfo.1, decide_eq_false hfo.2]; rfl
        have e2 : bv x q = false := by unfold bv; rw [decide_eq_false hfo.1]; rfl
        exact ⟨(k + 1, c, u, w), by (dsimp only; omega), ⟨by (dsimp only; omega), by (rw [c6 hq ho]; exact hI.2.1), by (rw [c6 hq e1]; exact hI.2.2.1), by (rw [c6 hq e2]; exact hI.2.2.2)⟩, ⟨⟨rfl, rfl⟩, zF, zB, zN, zX⟩⟩)
     | exact absurd (hA1.symm.trans hC0) (by decide)
     | exact absurd (hC1.symm.trans hA0) (by decide)
     | (have z1 : d1 = true := hA1
        have z2 : d2 = true := hD1
        have e1 : bw x q = true := by unfold bw; rw [← hd1, z1]; rfl
        have e2 : bv x q = true := by unfold bv; rw [← hd1, ← hd2, z1, z2]; rfl
        exact ⟨(k + 1, c + 1, u + 1, w + 1), by (dsimp only; omega), ⟨by (dsimp only; omega), by (rw [cx hq hon, ← hI.2.1]), by (rw [cx hq e1, ← hI.2.2.1]), by (rw [cx hq e2, ← hI.2.2.2])⟩, ⟨⟨rfl, rfl⟩, zF, zB, zN, zX⟩⟩)
     | (have z1 : d1 = true := hA1
        have z2 : d2 = false := hD0
        have e1 : bw x q = true := by unfold bw; rw [← hd1, z1]; rfl
        have e2 : bv x q = false := by unfold bv; rw [← hd1, ← hd2, z1, z2]; rfl
        exact ⟨(k + 1, c + 1, u + 1, w), by (dsimp only; omega), ⟨by (dsimp only; omega), by (rw [cx hq hon, ← hI.2.1]), by (rw [cx hq e1, ← hI.2.2.1]), by (rw [c6 hq e2]; exact hI.2.2.2)⟩, ⟨⟨rfl, rfl⟩, zF, zB, zN, zX⟩⟩)
     | (have z1 : d1 = false := hA0
        have z2 : d2 = true := hB1
        have e1 : bw x q = true := by unfold bw; rw [← hd1, ← hd2, z1, z2]; rfl
        have e2 : bv x q = false := by unfold bv; rw [← hd1, z1]; rfl
        exact ⟨(k + 1, c + 1, u + 1, w), by (dsimp only; omega), ⟨by (dsimp only; omega), by (rw [cx hq hon, ← hI.2.1]), by (rw [cx hq e1, ← hI.2.2.1]), by (rw [c6 hq e2]; exact hI.2.2.2)⟩, ⟨⟨rfl, rfl⟩, zF, zB, zN, zX⟩⟩)
     | (have z1 : d1 = false := hA0
        have z2 : d2 = false := hB0
        have e1 : bw x q = false := by unfold bw; rw [← hd1, ← hd2, z1, z2]; rfl
        have e2 : bv x q = false := by unfold bv; rw [← hd1, z1]; rfl
        exact ⟨(k + 1, c + 1, u, w), by (dsimp only; omega), ⟨by (dsimp only; omega), by (rw [cx hq hon, ← hI.2.1]), by (rw [c6 hq e1]; exact hI.2.2.1), by (rw [c6 hq e2]; exact hI.2.2.2)⟩, ⟨⟨rfl, rfl⟩, zF, zB, zN, zX⟩⟩)
    first
    | (have hD0 : d2 = false := hc)
    | skip
    refine bi ?_
    refine K20 _ ?_
    refine yR ?_
    refine aa rfl (cm rfl rfl rfl (by omega)) ?_
    refine yM rfl rfl ?_
    refine yN ?_
    dsimp only [St.put]
    first
    | (have ho : em p.text x q = false := hoff
       have hfo := mq hpo ho
       have e1 : bw x q = false := by unfold bw; rw [decide_eq_false hfo.1, decide_eq_false hfo.2]; rfl
       have e2 : bv x q = false := by unfold bv; rw [decide_eq_false hfo.1]; rfl
       exact ⟨(k + 1, c, u, w), by (dsimp only; omega), ⟨by (dsimp only; omega), by (rw [c6 hq ho]; exact hI.2.1), by (rw [c6 hq e1]; exact hI.2.2.1), by (rw [c6 hq e2]; exact hI.2.2.2)⟩, ⟨⟨rfl, rfl⟩, zF, zB, zN, zX⟩⟩)
    | exact absurd (hA1.symm.trans hC0) (by decide)
    | exact absurd (hC1.symm.trans hA0) (by decide)
    | (have z1 : d1 = true := hA1
       have z2 : d2 = true := hD1
       have e1 : bw x q = true := by unfold bw; rw [← hd1, z1]; rfl
       have e2 : bv x q = true := by unfold bv; rw [← hd1, ← hd2, z1, z2]; rfl
       exact ⟨(k + 1, c + 1, u + 1, w + 1), by (dsimp only; omega), ⟨by (dsimp only; omega), by (rw [cx hq hon, ← hI.2.1]), by (rw [cx hq e1, ← hI.2.2.1]), by (rw [cx hq e2, ← hI.2.2.2])⟩, ⟨⟨rfl, rfl⟩, zF, zB, zN, zX⟩⟩)
    | (have z1 : d1 = true := hA1
       have z2 : d2 = false := hD0
       have e1 : bw x q = true := by unfold bw; rw [← hd1, z1]; rfl
       have e2 : bv x q = false := by unfold bv; rw [← hd1, ← hd2, z1, z2]; rfl
       exact ⟨(k + 1, c + 1, u + 1, w), by (dsimp only; omega), ⟨by (dsimp only; omega), by (rw [cx hq hon, ← hI.2.1]), by (rw [cx hq e1, ← hI.2.2.1]), by (rw [c6 hq e2]; exact hI.2.2.2)⟩, ⟨⟨rfl, rfl⟩, zF, zB, zN, zX⟩⟩)
    | (have z1 : d1 = false := hA0
       have z2 : d2 = true := hB1
       have e1 : bw x q = true := by unfold bw; rw [← hd1, ← hd2, z1, z2]; rfl
       have e2 : bv x q = false := by unfold bv; rw [← hd1, z1]; rfl
       exact ⟨(k + 1, c + 1, u + 1, w), by (dsimp only; omega), ⟨by (dsimp only; omega), by (rw [cx hq hon, ← hI.2.1]), by (rw [cx hq e1, ← hI.2.2.1]), by (rw [c6 hq e2]; exact hI.2.2.2)⟩, ⟨⟨rfl, rfl⟩, zF, zB, zN, zX⟩⟩)
    | (have z1 : d1 = false := hA0
       have z2 : d2 = false := hB0
       have e1 : bw x q = false := by unfold bw; rw [← hd1, ← hd2, z1, z2]; rfl
       have e2 : bv x q = false := by unfold bv; rw [← hd1, z1]; rfl
       exact ⟨(k + 1, c + 1, u, w), by (dsimp only; omega), ⟨by (dsimp only; omega), by (rw [cx hq hon, ← hI.2.1]), by (rw [c6 hq e1]; exact hI.2.2.1), by (rw [c6 hq e2]; exact hI.2.2.2)⟩, ⟨⟨rfl, rfl⟩, zF, zB, zN, zX⟩⟩)
   have hC0 : d1 = false := hs
   refine yK rfl ?_
   refine aa rfl (cv rfl rfl (by constructor)) ?_
   refine yN ?_
   dsimp only [St.put]
   refine K46 _ ?_
   refine bd rfl (fun h => by cases h) (fun _ => ?_)
   first
   | (have hD0 : d2 = false := hc)
   | skip
   refine bi ?_
   refine K20 _ ?_
   refine yR ?_
   refine aa rfl (cm rfl rfl rfl (by omega)) ?_
   refine yM rfl rfl ?_
   refine yN ?_
   dsimp only [St.put]
   first
   | (have ho : em p.text x q = false := hoff
      have hfo := mq hpo ho
      have e1 : bw x q = false := by unfold bw; rw [decide_eq_false hfo.1, decide_eq_false hfo.2]; rfl
      have e2 : bv x q = false := by unfold bv; rw [decide_eq_false hfo.1]; rfl
      exact ⟨(k + 1, c, u, w), by (dsimp only; omega), ⟨by (dsimp only; omega), by (rw [c6 hq ho]; exact hI.2.1), by (rw [c6 hq e1]; exact hI.2.2.1), by (rw [c6 hq e2]; exact hI.2.2.2)⟩, ⟨⟨rfl, rfl⟩, zF, zB, zN, zX⟩⟩)
   | exact absurd (hA1.symm.trans hC0) (by decide)
   | exact absurd (hC1.symm.trans hA0) (by decide)
   | (have z1 : d1 = true := hA1
      have z2 : d2 = true := hD1
      have e1 : bw x q = true := by unfold bw; rw [← hd1, z1]; rfl
      have e2 : bv x q = true := by unfold bv; rw [← hd1, ← hd2, z1, z2]; rfl
      exact ⟨(k + 1, c + 1, u + 1, w + 1), by (dsimp only; omega), ⟨by (dsimp only; omega), by (rw [cx hq hon, ← hI.2.1]), by (rw [cx hq e1, ← hI.2.2.1]), by (rw [cx hq e2, ← hI.2.2.2])⟩, ⟨⟨rfl, rfl⟩, zF, zB, zN, zX⟩⟩)
   | (have z1 : d1 = true := hA1
      have z2 : d2 = false := hD0
      have e1 : bw x q = true := by unfold bw; rw [← hd1, z1]; rfl
      have e2 : bv x q = false := by unfold bv; rw [← hd1, ← hd2, z1, z2]; rfl
      exact ⟨(k + 1, c + 1, u + 1, w), by (dsimp only; omega), ⟨by (dsimp only; omega), by (rw [cx hq hon, ← hI.2.1]), by (rw [cx hq e1, ← hI.2.2.1]), by (rw [c6 hq e2]; exact hI.2.2.2)⟩, ⟨⟨rfl, rfl⟩, zF, zB, zN, zX⟩⟩)
   | (have z1 : d1 = false := hA0
      have z2 : d2 = true := hB1
      have e1 : bw x q = true := by unfold bw; rw [← hd1, ← hd2, z1, z2]; rfl
      have e2 : bv x q = false := by unfold bv; rw [← hd1, z1]; rfl
      exact ⟨(k + 1, c + 1, u + 1, w), by (dsimp only; omega), ⟨by (dsimp only; omega), by (rw [cx hq hon, ← hI.2.1]), by (rw [cx hq e1, ← hI.2.2.1]), by (rw [c6 hq e2]; exact hI.2.2.2)⟩, ⟨⟨rfl, rfl⟩, zF, zB, zN, zX⟩⟩)
   | (have z1 : d1 = false := hA0
      have z2 : d2 = false := hB0
      have e1 : bw x q = false := by unfold bw; rw [← hd1, ← hd2, z1, z2]; rfl
      have e2 : bv x q = false := by unfold bv; rw [← hd1, z1]; rfl
      exact ⟨(k + 1, c + 1, u, w), by (dsimp only; omega), ⟨by (dsimp only; omega), by (rw [cx hq hon, ← hI.2.1]), by (rw [c6 hq e1]; exact hI.2.2.1), by (rw [c6 hq e2]; exact hI.2.2.2)⟩, ⟨⟨rfl, rfl⟩, zF, zB, zN, zX⟩⟩)
  have hA0 : d1 = false := hs
  refine yM rfl rfl ?_
  refine aa rfl (cv rfl rfl (by constructor)) ?_
  refine yN ?_
  dsimp only [St.put]
  refine K43 _ ?_
  refine bd rfl (fun hc => ?_) (fun hc => ?_)
  ·first
   | exact hnever
   | skip
   first
   | (have hB1 : d2 = true := hc
      have hone : bw x q = true := by unfold bw; rw [← hd1, ← hd2, hA0, hB1]; rfl
      have hat := sg (f := bw x) hq hone
      have hal2 := (List.getElem?_eq_some_iff.1 hat).1)
   | skip
   refine yS fun _ K49 => ?_
   refine yS fun _ K50 => ?_
   refine g8 [(0, none), (1, none), (2, none), (3, none), (4, none), (5, none), (6, none), (7, none), (8, none), (9, none), (10, none), (11, none)] (fun i => [].contains i) (fun i => [].contains i) (fun i => [0, 1, 2, 3, 4, 5, 6, 7, 10, 11].contains i) [] (by kernel_rfl) (by kernel_rfl) ?_
   refine xM rfl rfl rfl rfl rfl ?_
   refine xM rfl rfl rfl rfl rfl ?_
   refine ah rfl rfl rfl rfl (bj rfl rfl (List.length_map _)) ?_
   refine ah rfl rfl rfl rfl ((eh (c := false) (kx rfl rfl rfl) (decide_eq_false (by rw [hI2]; show ¬ ((((dn p.text).filter (bw x)).length : Int) ≤ ((((dn p.text).take k).filter (bw x)).length : Int)); omega)))) ?_
   refine xM rfl rfl rfl rfl rfl ?_
   refine xM rfl rfl rfl rfl rfl ?_
   refine xM rfl rfl rfl rfl rfl ?_
   try dsimp only [St.put]
   refine ah rfl rfl rfl rfl ((bk (k := u) rfl rfl rfl rfl (bu (by rw [hI2]; exact hat)) (Enc.len _))) ?_
   try dsimp only [St.put]
   refine ai rfl rfl rfl rfl (aq rfl rfl (Enc.len _)) ?_
   try dsimp only [St.put]
   refine ai rfl rfl rfl rfl (aq rfl rfl (Enc.len _)) ?_
   refine ah rfl rfl rfl rfl ((eh (c := false) (rx (x := q) (y := q) rfl rfl rfl) (by rw [decide_eq_true rfl]; rfl))) ?_
   refine ah rfl rfl rfl rfl (cv rfl rfl (by constructor)) ?_
   refine cz ?_
   dsimp only [St.put]
   refine K50 _ ?_
   refine bd rfl (fun h => by cases h) (fun _ => ?_)
   refine bi ?_
   refine K49 _ ?_
   refine yR ?_
   refine yM rfl rfl ?_
   refine aa rfl (cm rfl rfl rfl (by omega)) ?_
   refine yA rfl rfl ?_
   refine yN ?_
   dsimp only [St.put]
   refine K42 _ ?_
   refine yS fun _ K51 => ?_
   refine yR ?_
   refine yM rfl rfl ?_
   refine yM rfl rfl ?_
   refine er (fun hs => ?_) (fun hs => ?_)
   ·have hC1 : d1 = true := hs
    refine yM rfl rfl ?_
    refine aa rfl (cn rfl rfl (by constructor)) ?_
    refine yN ?_
    dsimp only [St.put]
    refine K51 _ ?_
    refine bd rfl (fun hc => ?_) (fun hc => ?_)
    ·have hD1 : d2 = true := hc
     have htwo : bv x q = true := by unfold bv; rw [← hd1, ← hd2, hC1, hD1]; rfl
     have hbt := sg (f := bv x) hq htwo
     have hbl2 := (List.getElem?_eq_some_iff.1 hbt).1
     refine yS fun _ K52 => ?_
     refine yS fun _ K53 => ?_
     refine g8 [(0, none), (1, none), (2, none), (3, none), (4, none), (5, none), (6, none), (7, none), (8, none), (9, none), (10, none), (11, none)] (fun i => [].contains i) (fun i => [].contains i) (fun i => [0, 1, 2, 3, 4, 5, 6, 7, 10, 11].contains i) [] (by kernel_rfl) (by kernel_rfl) ?_
     refine xM rfl rfl rfl rfl rfl ?_
     refine xM rfl rfl rfl rfl rfl ?_
     refine ah rfl rfl rfl rfl (bj rfl rfl (List.length_map _)) ?_
     refine ah rfl rfl rfl rfl ((eh (c := false) (kx rfl rfl rfl) (decide_eq_false (by rw [hI3]; show ¬ ((((dn p.text).filter (bv x)).length : Int) ≤ ((((dn p.text).take k).filter (bv x)).length : Int)); omega)))) ?_
     refine xM rfl rfl rfl rfl rfl ?_
     refine xM rfl rfl rfl rfl rfl ?_
     refine xM rfl rfl rfl rfl rfl ?_
     try dsimp only [St.put]
     refine ah rfl rfl rfl rfl ((bk (k := w) rfl rfl rfl rfl (bu (by rw [hI3]; exact hbt)) (Enc.len _))) ?_
     try dsimp only [St.put]
     refine ai rfl rfl rfl rfl (aq rfl rfl (Enc.len _)) ?_
     try dsimp only [St.put]
     refine ai rfl rfl rfl rfl (aq rfl rfl (Enc.len _)) ?_
     refine ah rfl rfl rfl rfl ((eh (c := false) (rx (x := q) (y := q) rfl rfl rfl) (by rw [decide_eq_true rfl]; rfl))) ?_
     refine ah rfl rfl rfl rfl (cv rfl rfl (by constructor)) ?_
     refine cz ?_
     dsimp only [St.put]
     refine K53 _ ?_
     refine bd rfl (fun h => by cases h) (fun _ => ?_)
     refine bi ?_
     refine K52 _ ?_
     refine yR ?_
     refine yM rfl rfl ?_
     refine aa rfl (cm rfl rfl rfl (by omega)) ?_
     refine yA rfl rfl ?_
     refine yN ?_
     dsimp only [St.put]
     refine K20 _ ?_
     refine yR ?_
     refine aa rfl (cm rfl rfl rfl (by omega)) ?_
     refine yM rfl rfl ?_
     refine yN ?_
     dsimp only [St.put]
     first
     | (have ho : em p.text x q = false := hoff
        have hfo := mq hpo ho
        have e1 : bw x q = false := by unfold bw; rw [decide_eq_false hfo.1, decide_eq_false hfo.2]; rfl
        have e2 : bv x q = false := by unfold bv; rw [decide_eq_false hfo.1]; rfl
        exact ⟨(k + 1, c, u, w), by (dsimp only; omega), ⟨by (dsimp only; omega), by (rw [c6 hq ho]; exact hI.2.1), by (rw [c6 hq e1]; exact hI.2.2.1), by (rw [c6 hq e2]; exact hI.2.2.2)⟩, ⟨⟨rfl, rfl⟩, zF, zB, zN, zX⟩⟩)
     | exact absurd (hA1.symm.trans hC0) (by decide)
     | exact absurd (hC1.symm.trans hA0) (by decide)
     | (have z1 : d1 = true := hA1
        have z2 : d2 = true := hD1
        have e1 : bw x q = true := by unfold bw; rw [← hd1, z1]; rfl
        have e2 : bv x q = true := by unfold bv; rw [← hd1, ← hd2, z1, z2]; rfl
        exact ⟨(k + 1, c + 1, u + 1, w + 1), by (dsimp only; omega), ⟨by (dsimp only; omega), by (rw [cx hq hon, ← hI.2.1]), by (rw [cx hq e1, ← hI.2.2.1]), by (rw [cx hq e2, ← hI.2.2.2])⟩, ⟨⟨rfl, rfl⟩, zF, zB, zN, zX⟩⟩)
     | (have z1 : d1 = true := hA1
        have z2 : d2 = false := hD0
        have e1 : bw x q = true := by unfold bw; rw [← hd1, z1]; rfl
        have e2 : bv x q = false := by unfold bv; rw [← hd1, ← hd2, z1, z2]; rfl
        exact ⟨(k + 1, c + 1, u + 1, w), by (dsimp only; omega), ⟨by (dsimp only; omega), by (rw [cx hq hon, ← hI.2.1]), by (rw [cx hq e1, ← hI.2.2.1]), by (rw [c6 hq e2]; exact hI.2.2.2)⟩, ⟨⟨rfl, rfl⟩, zF, zB, zN, zX⟩⟩)
     | (have z1 : d1 = false := hA0
        have z2 : d2 = true := hB1
        have e1 : bw x q = true := by unfold bw; rw [← hd1, ← hd2, z1, z2]; rfl
        have e2 : bv x q = false := by unfold bv; rw [← hd1, z1]; rfl
        exact ⟨(k + 1, c + 1, u + 1, w), by (dsimp only; omega), ⟨by (dsimp only; omega), by (rw [cx hq hon, ← hI.2.1]), by (rw [cx hq e1, ← hI.2.2.1]), by (rw [c6 hq e2]; exact hI.2.2.2)⟩, ⟨⟨rfl, rfl⟩, zF, zB, zN, zX⟩⟩)
     | (have z1 : d1 = false := hA0
        have z2 : d2 = false := hB0
        have e1 : bw x q = false := by unfold bw; rw [← hd1, ← hd2, z1, z2]; rfl
        have e2 : bv x q = false := by unfold bv; rw [← hd1, z1]; rfl
        exact ⟨(k + 1, c + 1, u, w), by (dsimp only; omega), ⟨by (dsimp only; omega), by (rw [cx hq hon, ← hI.2.1]), by (rw [c6 hq e1]; exact hI.2.2.1), by (rw [c6 hq e2]; exact hI.2.2.2)⟩, ⟨⟨rfl, rfl⟩, zF, zB, zN, zX⟩⟩)
    first
    | (have hD0 : d2 = false := hc)
    | skip
    refine bi ?_
    refine K20 _ ?_
    refine yR ?_
    refine aa rfl (cm rfl rfl rfl (by omega)) ?_
    refine yM rfl rfl ?_
    refine yN ?_
    dsimp only [St.put]
    first
    | (have ho : em p.text x q = false := hoff
       have hfo := mq hpo ho
       have e1 : bw x q = false := by unfold bw; rw [decide_eq_false hfo.1, decide_eq_false hfo.2]; rfl
       have e2 : bv x q = false := by unfold bv; rw [decide_eq_false hfo.1]; rfl
       exact ⟨(k + 1, c, u, w), by (dsimp only; omega), ⟨by (dsimp only; omega), by (rw [c6 hq ho]; exact hI.2.1), by (rw [c6 hq e1]; exact hI.2.2.1), by (rw [c6 hq e2]; exact hI.2.2.2)⟩, ⟨⟨rfl, rfl⟩, zF, zB, zN, zX⟩⟩)
    | exact absurd (hA1.symm.trans hC0) (by decide)
    | exact absurd (hC1.symm.trans hA0) (by decide)
    | (have z1 : d1 = true := hA1
       have z2 : d2 = true := hD1
       have e1 : bw x q = true := by unfold bw; rw [← hd1, z1]; rfl
       have e2 : bv x q = true := by unfold bv; rw [← hd1, ← hd2, z1, z2]; rfl
       exact ⟨(k + 1, c + 1, u + 1, w + 1), by (dsimp only; omega), ⟨by (dsimp only; omega), by (rw [cx hq hon, ← hI.2.1]), by (rw [cx hq e1, ← hI.2.2.1]), by (rw [cx hq e2, ← hI.2.2.2])⟩, ⟨⟨rfl, rfl⟩, zF, zB, zN, zX⟩⟩)
    | (have z1 : d1 = true := hA1
       have z2 : d2 = false := hD0
       have e1 : bw x q = true := by unfold bw; rw [← hd1, z1]; rfl
       have e2 : bv x q = false := by unfold bv; rw [← hd1, ← hd2, z1, z2]; rfl
       exact ⟨(k + 1, c + 1, u + 1, w), by (dsimp only; omega), ⟨by (dsimp only; omega), by (rw [cx hq hon, ← hI.2.1]), by (rw [cx hq e1, ← hI.2.2.1]), by (rw [c6 hq e2]; exact hI.2.2.2)⟩, ⟨⟨rfl, rfl⟩, zF, zB, zN, zX⟩⟩)
    | (have z1 : d1 = false := hA0
       have z2 : d2 = true := hB1
       have e1 : bw x q = true := by unfold bw; rw [← hd1, ← hd2, z1, z2]; rfl
       have e2 : bv x q = false := by unfold bv; rw [← hd1, z1]; rfl
       exact ⟨(k + 1, c + 1, u + 1, w), by (dsimp only; omega), ⟨by (dsimp only; omega), by (rw [cx hq hon, ← hI.2.1]), by (rw [cx hq e1, ← hI.2.2.1]), by (rw [c6 hq e2]; exact hI.2.2.2)⟩, ⟨⟨rfl, rfl⟩, zF, zB, zN, zX⟩⟩)
    | (have z1 : d1 = false := hA0
       have z2 : d2 = false := hB0
       have e1 : bw x q = false := by unfold bw; rw [← hd1, ← hd2, z1, z2]; rfl
       have e2 : bv x q = false := by unfold bv; rw [← hd1, z1]; rfl
       exact ⟨(k + 1, c + 1, u, w), by (dsimp only; omega), ⟨by (dsimp only; omega), by (rw [cx hq hon, ← hI.2.1]), by (rw [c6 hq e1]; exact hI.2.2.1), by (rw [c6 hq e2]; exact hI.2.2.2)⟩, ⟨⟨rfl, rfl⟩, zF, zB, zN, zX⟩⟩)
   have hC0 : d1 = false := hs
   refine yK rfl ?_
   refine aa rfl (cv rfl rfl (by constructor)) ?_
   refine yN ?_
   dsimp only [St.put]
   refine K51 _ ?_
   refine bd rfl (fun h => by cases h) (fun _ => ?_)
   first
   | (have hD0 : d2 = false := hc)
   | skip
   refine bi ?_
   refine K20 _ ?_
   refine yR ?_
   refine aa rfl (cm rfl rfl rfl (by omega)) ?_
   refine yM rfl rfl ?_
   refine yN ?_
   dsimp only [St.put]
   first
   | (have ho : em p.text x q = false := hoff
      have hfo := mq hpo ho
      have e1 : bw x q = false := by unfold bw; rw [decide_eq_false hfo.1, decide_eq_false hfo.2]; rfl
      have e2 : bv x q = false := by unfold bv; rw [decide_eq_false hfo.1]; rfl
      exact ⟨(k + 1, c, u, w), by (dsimp only; omega), ⟨by (dsimp only; omega), by (rw [c6 hq ho]; exact hI.2.1), by (rw [c6 hq e1]; exact hI.2.2.1), by (rw [c6 hq e2]; exact hI.2.2.2)⟩, ⟨⟨rfl, rfl⟩, zF, zB, zN, zX⟩⟩)
   | exact absurd (hA1.symm.trans hC0) (by decide)
   | exact absurd (hC1.symm.trans hA0) (by decide)
   | (have z1 : d1 = true := hA1
      have z2 : d2 = true := hD1
      have e1 : bw x q = true := by unfold bw; rw [← hd1, z1]; rfl
      have e2 : bv x q = true := by unfold bv; rw [← hd1, ← hd2, z1, z2]; rfl
      exact ⟨(k + 1, c + 1, u + 1, w + 1), by (dsimp only; omega), ⟨by (dsimp only; omega), by (rw [cx hq hon, ← hI.2.1]), by (rw [cx hq e1, ← hI.2.2.1]), by (rw [cx hq e2, ← hI.2.2.2])⟩, ⟨⟨rfl, rfl⟩, zF, zB, zN, zX⟩⟩)
   | (have z1 : d1 = true := hA1
      have z2 : d2 = false := hD0
      have e1 : bw x q = true := by unfold bw; rw [← hd1, z1]; rfl
      have e2 : bv x q = false := by unfold bv; rw [← hd1, ← hd2, z1, z2]; rfl
      exact ⟨(k + 1, c + 1, u + 1, w), by (dsimp only; omega), ⟨by (dsimp only; omega), by (rw [cx hq hon, ← hI.2.1]), by (rw [cx hq e1, ← hI.2.2.1]), by (rw [c6 hq e2]; exact hI.2.2.2)⟩, ⟨⟨rfl, rfl⟩, zF, zB, zN, zX⟩⟩)
   | (have z1 : d1 = false := hA0
      have z2 : d2 = true := hB1
      have e1 : bw x q = true := by unfold bw; rw [← hd1, ← hd2, z1, z2]; rfl
      have e2 : bv x q = false := by unfold bv; rw [← hd1, z1]; rfl
      exact ⟨(k + 1, c + 1, u + 1, w), by (dsimp only; omega), ⟨by (dsimp only; omega), by (rw [cx hq hon, ← hI.2.1]), by (rw [cx hq e1, ← hI.2.2.1]), by (rw [c6 hq e2]; exact hI.2.2.2)⟩, ⟨⟨rfl, rfl⟩, zF, zB, zN, zX⟩⟩)
   | (have z1 : d1 = false := hA0
      have z2 : d2 = false := hB0
      have e1 : bw x q = false := by unfold bw; rw [← hd1, ← hd2, z1, z2]; rfl
      have e2 : bv x q = false := by unfold bv; rw [← hd1, z1]; rfl
      exact ⟨(k + 1, c + 1, u, w), by (dsimp only; omega), ⟨by (dsimp only; omega), by (rw [cx hq hon, ← hI.2.1]), by (rw [c6 hq e1]; exact hI.2.2.1), by (rw [c6 hq e2]; exact hI.2.2.2)⟩, ⟨⟨rfl, rfl⟩, zF, zB, zN, zX⟩⟩)
  have hB0 : d2 = false := hc
  refine bi ?_
  refine K42 _ ?_
  refine yS fun _ K54 => ?_
  refine yR ?_
  refine yM rfl rfl ?_
  refine yM rfl rfl ?_
  refine er (fun hs => ?_) (fun hs => ?_)
  ·have hC1 : d1 = true := hs
   refine yM rfl rfl ?_
   refine aa rfl (cn rfl rfl (by constructor)) ?_
   refine yN ?_
   dsimp only [St.put]
   refine K54 _ ?_
   refine bd rfl (fun hc => ?_) (fun hc => ?_)
   ·have hD1 : d2 = true := hc
    have htwo : bv x q = true := by unfold bv; rw [← hd1, ← hd2, hC1, hD1]; rfl
    have hbt := sg (f := bv x) hq htwo
    have hbl2 := (List.getElem?_eq_some_iff.1 hbt).1
    refine yS fun _ K55 => ?_
    refine yS fun _ K56 => ?_
    refine g8 [(0, none), (1, none), (2, none), (3, none), (4, none), (5, none), (6, none), (7, none), (8, none), (9, none), (10, none), (11, none)] (fun i => [].contains i) (fun i => [].contains i) (fun i => [0, 1, 2, 3, 4, 5, 6, 7, 10, 11].contains i) [] (by kernel_rfl) (by kernel_rfl) ?_
    refine xM rfl rfl rfl rfl rfl ?_
    refine xM rfl rfl rfl rfl rfl ?_
    refine ah rfl rfl rfl rfl (bj rfl rfl (List.length_map _)) ?_
    refine ah rfl rfl rfl rfl ((eh (c := false) (kx rfl rfl rfl) (decide_eq_false (by rw [hI3]; show ¬ ((((dn p.text).filter (bv x)).length : Int) ≤ ((((dn p.text).take k).filter (bv x)).length : Int)); omega)))) ?_
    refine xM rfl rfl rfl rfl rfl ?_
    refine xM rfl rfl rfl rfl rfl ?_
    refine xM rfl rfl rfl rfl rfl ?_
    try dsimp only [St.put]
    refine ah rfl rfl rfl rfl ((bk (k := w) rfl rfl rfl rfl (bu (by rw [hI3]; exact hbt)) (Enc.len _))) ?_
    try dsimp only [St.put]
    refine ai rfl rfl rfl rfl (aq rfl rfl (Enc.len _)) ?_
    try dsimp only [St.put]
    refine ai rfl rfl rfl rfl (aq rfl rfl (Enc.len _)) ?_
    refine ah rfl rfl rfl rfl ((eh (c := false) (rx (x := q) (y := q) rfl rfl rfl) (by rw [decide_eq_true rfl]; rfl))) ?_
    refine ah rfl rfl rfl rfl (cv rfl rfl (by constructor)) ?_
    refine cz ?_
    dsimp only [St.put]
    refine K56 _ ?_
    refine bd rfl (fun h => by cases h) (fun _ => ?_)
    refine bi ?_
    refine K55 _ ?_
    refine yR ?_
    refine yM rfl rfl ?_
    refine aa rfl (cm rfl rfl rfl (by omega)) ?_
    refine yA rfl rfl ?_
    refine yN ?_
    dsimp only [St.put]
    refine K20 _ ?_
    refine yR ?_
    refine aa rfl (cm rfl rfl rfl (by omega)) ?_
    refine yM rfl rfl ?_
    refine yN ?_
    dsimp only [St.put]
    first
    | (have ho : em p.text x q = false := hoff
       have hfo := mq hpo ho
       have e1 : bw x q = false := by unfold bw; rw [decide_eq_false hfo.1, decide_eq_false hfo.2]; rfl
       have e2 : bv x q = false := by unfold bv; rw [decide_eq_false hfo.1]; rfl
       exact ⟨(k + 1, c, u, w), by (dsimp only; omega), ⟨by (dsimp only; omega), by (rw [c6 hq ho]; exact hI.2.1), by (rw [c6 hq e1]; exact hI.2.2.1), by (rw [c6 hq e2]; exact hI.2.2.2)⟩, ⟨⟨rfl, rfl⟩, zF, zB, zN, zX⟩⟩)
    | exact absurd (hA1.symm.trans hC0) (by decide)
    | exact absurd (hC1.symm.trans hA0) (by decide)
    | (have z1 : d1 = true := hA1
       have z2 : d2 = true := hD1
       have e1 : bw x q = true := by unfold bw; rw [← hd1, z1]; rfl
       have e2 : bv x q = true := by unfold bv; rw [← hd1, ← hd2, z1, z2]; rfl
       exact ⟨(k + 1, c + 1, u + 1, w + 1), by (dsimp only; omega), ⟨by (dsimp only; omega), by (rw [cx hq hon, ← hI.2.1]), by (rw [cx hq e1, ← hI.2.2.1]), by (rw [cx hq e2, ← hI.2.2.2])⟩, ⟨⟨rfl, rfl⟩, zF, zB, zN, zX⟩⟩)
    | (have z1 : d1 = true := hA1
       have z2 : d2 = false := hD0
       have e1 : bw x q = true := by unfold bw; rw [← hd1, z1]; rfl
       have e2 : bv x q = false := by unfold bv; rw [← hd1, ← hd2, z1, z2]; rfl
       exact ⟨(k + 1, c + 1, u + 1, w), by (dsimp only; omega), ⟨by (dsimp only; omega), by (rw [cx hq hon, ← hI.2.1]), by (rw [cx hq e1, ← hI.2.2.1]), by (rw [c6 hq e2]; exact hI.2.2.2)⟩, ⟨⟨rfl, rfl⟩, zF, zB, zN, zX⟩⟩)
    | (have z1 : d1 = false := hA0
       have z2 : d2 = true := hB1
       have e1 : bw x q = true := by unfold bw; rw [← hd1, ← hd2, z1, z2]; rfl
       have e2 : bv x q = false := by unfold bv; rw [← hd1, z1]; rfl
       exact ⟨(k + 1, c + 1, u + 1, w), by (dsimp only; omega), ⟨by (dsimp only; omega), by (rw [cx hq hon, ← hI.2.1]), by (rw [cx hq e1, ← hI.2.2.1]), by (rw [c6 hq e2]; exact hI.2.2.2)⟩, ⟨⟨rfl, rfl⟩, zF, zB, zN, zX⟩⟩)
    | (have z1 : d1 = false := hA0
       have z2 : d2 = false := hB0
       have e1 : bw x q = false := by unfold bw; rw [← hd1, ← hd2, z1, z2]; rfl
       have e2 : bv x q = false := by unfold bv; rw [← hd1, z1]; rfl
       exact ⟨(k + 1, c + 1, u, w), by (dsimp only; omega), ⟨by (dsimp only; omega), by (rw [cx hq hon, ← hI.2.1]), by (rw [c6 hq e1]; exact hI.2.2.1), by (rw [c6 hq e2]; exact hI.2.2.2)⟩, ⟨⟨rfl, rfl⟩, zF, zB, zN, zX⟩⟩)
   first
   | (have hD0 : d2 = false := hc)
   | skip
   refine bi ?_
   refine K20 _ ?_
   refine yR ?_
   refine aa rfl (cm rfl rfl rfl (by omega)) ?_
   refine yM rfl rfl ?_
   refine yN ?_
   dsimp only [St.put]
   first
   | (have ho : em p.text x q = false := hoff
      have hfo := mq hpo ho
      have e1 : bw x q = false := by unfold bw; rw [decide_eq_false hfo.1, decide_eq_false hfo.2]; rfl
      have e2 : bv x q = false := by unfold bv; rw [decide_eq_false hfo.1]; rfl
      exact ⟨(k + 1, c, u, w), by (dsimp only; omega), ⟨by (dsimp only; omega), by (rw [c6 hq ho]; exact hI.2.1), by (rw [c6 hq e1]; exact hI.2.2.1), by (rw [c6 hq e2]; exact hI.2.2.2)⟩, ⟨⟨rfl, rfl⟩, zF, zB, zN, zX⟩⟩)
   | exact absurd (hA1.symm.trans hC0) (by decide)
   | exact absurd (hC1.symm.trans hA0) (by decide)
   | (have z1 : d1 = true := hA1
      have z2 : d2 = true := hD1
      have e1 : bw x q = true := by unfold bw; rw [← hd1, z1]; rfl
      have e2 : bv x q = true := by unfold bv; rw [← hd1, ← hd2, z1, z2]; rfl
      exact ⟨(k + 1, c + 1, u + 1, w + 1), by (dsimp only; omega), ⟨by (dsimp only; omega), by (rw [cx hq hon, ← hI.2.1]), by (rw [cx hq e1, ← hI.2.2.1]), by (rw [cx hq e2, ← hI.2.2.2])⟩, ⟨⟨rfl, rfl⟩, zF, zB, zN, zX⟩⟩)
   | (have z1 : d1 = true := hA1
      have z2 : d2 = false := hD0
      have e1 : bw x q = true := by unfold bw; rw [← hd1, z1]; rfl
      have e2 : bv x q = false := by unfold bv; rw [← hd1, ← hd2, z1, z2]; rfl
      exact ⟨(k + 1, c + 1, u + 1, w), by (dsimp only; omega), ⟨by (dsimp only; omega), by (rw [cx hq hon, ← hI.2.1]), by (rw [cx hq e1, ← hI.2.2.1]), by (rw [c6 hq e2]; exact hI.2.2.2)⟩, ⟨⟨rfl, rfl⟩, zF, zB, zN, zX⟩⟩)
   | (have z1 : d1 = false := hA0
      have z2 : d2 = true := hB1
      have e1 : bw x q = true := by unfold bw; rw [← hd1, ← hd2, z1, z2]; rfl
      have e2 : bv x q = false := by unfold bv; rw [← hd1, z1]; rfl
      exact ⟨(k + 1, c + 1, u + 1, w), by (dsimp only; omega), ⟨by (dsimp only; omega), by (rw [cx hq hon, ← hI.2.1]), by (rw [cx hq e1, ← hI.2.2.1]), by (rw [c6 hq e2]; exact hI.2.2.2)⟩, ⟨⟨rfl, rfl⟩, zF, zB, zN, zX⟩⟩)
   | (have z1 : d1 = false := hA0
      have z2 : d2 = false := hB0
      have e1 : bw x q = false := by unfold bw; rw [← hd1, ← hd2, z1, z2]; rfl
      have e2 : bv x q = false := by unfold bv; rw [← hd1, z1]; rfl
      exact ⟨(k + 1, c + 1, u, w), by (dsimp only; omega), ⟨by (dsimp only; omega), by (rw [cx hq hon, ← hI.2.1]), by (rw [c6 hq e1]; exact hI.2.2.1), by (rw [c6 hq e2]; exact hI.2.2.2)⟩, ⟨⟨rfl, rfl⟩, zF, zB, zN, zX⟩⟩)
  have hC0 : d1 = false := hs
  refine yK rfl ?_
  refine aa rfl (cv rfl rfl (by constructor)) ?_
  refine yN ?_
  dsimp only [St.put]
  refine K54 _ ?_
  refine bd rfl (fun h => by cases h) (fun _ => ?_)
  first
  | (have hD0 : d2 = false := hc)
  | skip
  refine bi ?_
  refine K20 _ ?_
  refine yR ?_
  refine aa rfl (cm rfl rfl rfl (by omega)) ?_
  refine yM rfl rfl ?_
  refine yN ?_
  dsimp only [St.put]
  first
  | (have ho : em p.text x q = false := hoff
     have hfo := mq hpo ho
     have e1 : bw x q = false := by unfold bw; rw [decide_eq_false hfo.1, decide_eq_false hfo.2]; rfl
     have e2 : bv x q = false := by unfold bv; rw [decide_eq_false hfo.1]; rfl
     exact ⟨(k + 1, c, u, w), by (dsimp only; omega), ⟨by (dsimp only; omega), by (rw [c6 hq ho]; exact hI.2.1), by (rw [c6 hq e1]; exact hI.2.2.1), by (rw [c6 hq e2]; exact hI.2.2.2)⟩, ⟨⟨rfl, rfl⟩, zF, zB, zN, zX⟩⟩)
  | exact absurd (hA1.symm.trans hC0) (by decide)
  | exact absurd (hC1.symm.trans hA0) (by decide)
  | (have z1 : d1 = true := hA1
     have z2 : d2 = true := hD1
     have e1 : bw x q = true := by unfold bw; rw [← hd1, z1]; rfl
     have e2 : bv x q = true := by unfold bv; rw [← hd1, ← hd2, z1, z2]; rfl
     exact ⟨(k + 1, c + 1, u + 1, w + 1), by (dsimp only; omega), ⟨by (dsimp only; omega), by (rw [cx hq hon, ← hI.2.1]), by (rw [cx hq e1, ← hI.2.2.1]), by (rw [cx hq e2, ← hI.2.2.2])⟩, ⟨⟨rfl, rfl⟩, zF, zB, zN, zX⟩⟩)
  | (have z1 : d1 = true := hA1
     have z2 : d2 = false := hD0
     have e1 : bw x q = true := by unfold bw; rw [← hd1, z1]; rfl
     have e2 : bv x q = false := by unfold bv; rw [← hd1, ← hd2, z1, z2]; rfl
     exact ⟨(k + 1, c + 1, u + 1, w), by (dsimp only; omega), ⟨by (dsimp only; omega), by (rw [cx hq hon, ← hI.2.1]), by (rw [cx hq e1, ← hI.2.2.1]), by (rw [c6 hq e2]; exact hI.2.2.2)⟩, ⟨⟨rfl, rfl⟩, zF, zB, zN, zX⟩⟩)
  | (have z1 : d1 = false := hA0
     have z2 : d2 = true := hB1
     have e1 : bw x q = true := by unfold bw; rw [← hd1, ← hd2, z1, z2]; rfl
     have e2 : bv x q = false := by unfold bv; rw [← hd1, z1]; rfl
     exact ⟨(k + 1, c + 1, u + 1, w), by (dsimp only; omega), ⟨by (dsimp only; omega), by (rw [cx hq hon, ← hI.2.1]), by (rw [cx hq e1, ← hI.2.2.1]), by (rw [c6 hq e2]; exact hI.2.2.2)⟩, ⟨⟨rfl, rfl⟩, zF, zB, zN, zX⟩⟩)
  | (have z1 : d1 = false := hA0
     have z2 : d2 = false := hB0
     have e1 : bw x q = false := by unfold bw; rw [← hd1, ← hd2, z1, z2]; rfl
     have e2 : bv x q = false := by unfold bv; rw [← hd1, z1]; rfl
     exact ⟨(k + 1, c + 1, u, w), by (dsimp only; omega), ⟨by (dsimp only; omega), by (rw [cx hq hon, ← hI.2.1]), by (rw [c6 hq e1]; exact hI.2.2.1), by (rw [c6 hq e2]; exact hI.2.2.2)⟩, ⟨⟨rfl, rfl⟩, zF, zB, zN, zX⟩⟩)
 replace hc := of_decide_eq_false hc
 obtain rfl : k = (dn p.text).length := by omega
 have h1 := hI.2.1
 have h2 := hI.2.2.1
 have h3 := hI.2.2.2
 rw [un9] at h1 h2 h3
 have g1 : (et p.text x).length = u := h2.symm
 have g2 : (eb p.text x).length = w := h3.symm
 have g3 : fh p.text x = c := h1.symm
 refine dq ?_
 refine K16 _ ?_
 refine yS fun _ K57 => ?_
 refine yR ?_
 refine yM rfl rfl ?_
 refine yM rfl rfl ?_
 refine yM rfl rfl ?_
 refine yM rfl rfl ?_
 refine aa rfl ((eh (c := true) (f3 rfl rfl rfl) (decide_eq_true (by omega)))) ?_
 refine aa rfl (cn rfl rfl (by constructor)) ?_
 refine yM rfl rfl ?_
 refine yM rfl rfl ?_
 refine yM rfl rfl ?_
 refine aa rfl (bj rfl rfl (List.length_map _)) ?_
 refine aa rfl ((eh (c := true) (f3 rfl rfl rfl) (decide_eq_true (by omega)))) ?_
 refine aa rfl (cn rfl rfl (by constructor)) ?_
 refine yM rfl rfl ?_
 refine yM rfl rfl ?_
 refine yM rfl rfl ?_
 refine aa rfl (bj rfl rfl (List.length_map _)) ?_
 refine aa rfl ((eh (c := true) (f3 rfl rfl rfl) (decide_eq_true (by omega)))) ?_
 refine aa rfl (cn rfl rfl (by constructor)) ?_
 refine yM rfl rfl ?_
 refine yM rfl rfl ?_
 refine aa rfl (bj rfl rfl (List.length_map _)) ?_
 refine yM rfl rfl ?_
 refine aa rfl (bj rfl rfl (List.length_map _)) ?_
 refine aa rfl (cm rfl rfl rfl (by omega)) ?_
 refine yF rfl rfl rfl rfl ?_
 refine yL rfl rfl rfl ?_
 refine aa rfl (bj rfl rfl (List.length_map _)) ?_
 refine yF rfl rfl rfl rfl ?_
 refine yL rfl rfl rfl ?_
 refine aa rfl (bj rfl rfl (List.length_map _)) ?_
 refine aa rfl (cm rfl rfl rfl (by omega)) ?_
 refine aa rfl ((eh (c := true) (f3 rfl rfl rfl) (decide_eq_true (by omega)))) ?_
 refine aa rfl (cn rfl rfl (by constructor)) ?_
 refine yA rfl rfl ?_
 refine yN ?_
 dsimp only [St.put]
 refine K57 _ ?_
 refine bc ?_
 refine bx rfl (by constructor) zN zS ?_
 rfl
end Go.Proofs.YtgffhbbcpgdjjaaGreatDoor
namespace Go.AB
open Go Go.RowKit Go.ChangeShapes Go.WideShapes
end Go.AB
namespace Go.Proofs.YtgffhbbcpgdjjaaGreatDoor
set_option maxRecDepth 10000
open Go.ChangeShapes Go.WideShapes Go.ChangeAt Go.RowKit Go.AB
open Go.AB.Enc (cells)
open Go.PB (bg aj PlaceD bn bq bp)
instance : OpensE Tryz.prog 3 Int := .int (by kernel_rfl)
instance : OpensE Tryz.prog 9 ByteArray := .str (by kernel_rfl)
instance : OpensE Tryz.prog 85 (List ByteArray) := .slice (e := 9) (by kernel_rfl) (by decide)
instance : OpensE Tryz.prog 82 (List (List ByteArray)) := .slice (e := 85) (by kernel_rfl) (by decide)
instance : OpensE Tryz.prog 84 bg := .chap (tI := 3) (tL := 82) (by kernel_rfl)
instance : OpensE Tryz.prog 22 (List bg) := .slice (e := 84) (by kernel_rfl) (by decide)
theorem uh9 : jv Tryz.prog 24 [(0, 22, 1)] 1 = true := by kernel_rfl
instance : OpensE Tryz.prog 24 (List bg) := .one (e := 22) uh9
theorem uka : jv Tryz.prog 41 [(0, 3, 1), (1, 3, 1), (2, 3, 1)] 3 = true := by kernel_rfl
instance : OpensE Tryz.prog 41 PlaceD := .place (tI := 3) uka
theorem uot : Tryz.prog.underlying 4 = some .bool := by kernel_rfl
theorem ownZ : ownKnob Tryz.prog.godebug = none := by kernel_rfl
end Go.Proofs.YtgffhbbcpgdjjaaGreatDoor
namespace Go.AB
open Go Go.RowKit Go.ChangeShapes Go.WideShapes
open Go.AB.Enc (cells)
open Go.PB (bg aj PlaceD bn bq bp ck az ak dc ce)
theorem OpensE.reader {P : Program} {t tI : TypeId} [oI : OpensE P tI Int] (h : jv P t [(0, tI, 1), (1, tI, 1)] 2 = true) : OpensE P t ck :=
 .struct (α := ck) h fun w cs hl hp => by
  obtain ⟨a, ha⟩ := hp (0, tI, 1) (by simp) Int inferInstance oI
  obtain ⟨b, hb⟩ := hp (1, tI, 1) (by simp) Int inferInstance oI
  match cs, hl with
  | [u, v], _ => exact ⟨⟨a, b⟩, Rs.cons (Rs.single_inv ha) hb⟩
theorem OpensE.page {P : Program} {t tI tL : TypeId} [oI : OpensE P tI Int] [oL : OpensE P tL (List PlaceD)] (h : jv P t [(0, tI, 1), (1, tI, 1), (2, tI, 1), (3, tI, 1), (4, tL, 1), (5, tL, 1)] 6 = true) : OpensE P t az :=
 .struct (α := az) h fun w cs hl hp => by
  obtain ⟨a, ha⟩ := hp (0, tI, 1) (by simp) Int inferInstance oI
  obtain ⟨b, hb⟩ := hp (1, tI, 1) (by simp) Int inferInstance oI
  obtain ⟨c, hc⟩ := hp (2, tI, 1) (by simp) Int inferInstance oI
  obtain ⟨d, hd⟩ := hp (3, tI, 1) (by simp) Int inferInstance oI
  obtain ⟨e, he⟩ := hp (4, tL, 1) (by simp) (List PlaceD) inferInstance oL
  obtain ⟨f, hf⟩ := hp (5, tL, 1) (by simp) (List PlaceD) inferInstance oL
  match cs, hl with
  | [u0, u1, u2, u3, u4, u5], _ => exact ⟨⟨a, b, c, d, e, f⟩, Rs.cons (Rs.single_inv ha) (Rs.cons (Rs.single_inv hb) (Rs.cons (Rs.single_inv hc) (Rs.cons (Rs.single_inv hd) (Rs.cons (Rs.single_inv he) hf))))⟩
theorem OpensE.proofs {P : Program} {t tT tR tP : TypeId} [oT : OpensE P tT (List bg)] [oR : OpensE P tR (List ck)] [oP : OpensE P tP (List az)] (h : jv P t [(0, tT, 1), (1, tR, 1), (2, tR, 1), (3, tP, 1)] 4 = true) : OpensE P t ak :=
 .struct (α := ak) h fun w cs hl hp => by
  obtain ⟨a, ha⟩ := hp (0, tT, 1) (by simp) (List bg) inferInstance oT
  obtain ⟨b, hb⟩ := hp (1, tR, 1) (by simp) (List ck) inferInstance oR
  obtain ⟨c, hc⟩ := hp (2, tR, 1) (by simp) (List ck) inferInstance oR
  obtain ⟨d, hd⟩ := hp (3, tP, 1) (by simp) (List az) inferInstance oP
  match cs, hl with
  | [u0, u1, u2, u3], _ => exact ⟨⟨a, b, c, d⟩, Rs.cons (Rs.single_inv ha) (Rs.cons (Rs.single_inv hb) (Rs.cons (Rs.single_inv hc) hd))⟩
end Go.AB
namespace Go.AB
open Go Go.RowKit Go.ChangeShapes Go.WideShapes
open Go.AB.Enc (cells)
open Go.PB (bg aj PlaceD ck az ak dc ce)
def ue3 (P : Program) (t : TypeId) : Bool := match P.underlying t with | some (.func _ _ _) => true | _ => false
theorem uap {P : Program} {t : TypeId} (h : ue3 P t = true) : ∃ ps rs va, P.underlying t = some (.func ps rs va) := by
 unfold ue3 at h
 split at h
 ·rename_i ps rs va he; exact ⟨ps, rs, va, he⟩
 ·cases h
/-- Functions that lie in a variable's cells. -/
theorem unu {W : World} {b : Nat} {cs : List C} (hne : cs ≠ []) (hone : ∀ c ∈ cs, c.one = true) (us : Nat → Value) (hc : ∀ j, j < cs.length → W.cell? ⟨b, j, none⟩ = some (us j)) (hr : ∀ j c, cs[j]? = some c → R (j2 W) W c (us j)) : R (j2 W) W (.elem cs) (.pointer (some ⟨b, 0, none⟩)) := by
 have hl : 0 < cs.length := List.length_pos_iff.2 hne
 refine .elem hne hone (.inr ⟨b, 0, rfl, ?_, fun j hj => by rw [Nat.zero_add]; exact hc j hj⟩) hr
 have := uf5 (hc (cs.length - 1) (by omega))
 show 0 + cs.length ≤ qu W b
 omega
theorem umo {P : Program} {f : FuncId} {cs : List C} {v gv : Value} {gc : C} (hp : fu 0 (.fact gv gc) P f cs (.v v)) {w : World} {args : List Value} (hK : R (j2 w) w gc gv) (hr : Rs (j2 w) w cs args) :
  Calls P f args.toArray w fun e w' => e = .returned v ∧ Below w.heap.size w w' :=
 ump (fun G nx hG => by
  intro E w' as' hrs hsg
  exact hp G nx hG (by obtain ⟨t, _⟩ := hsg.obj 0 _ hG; have := hsg.lt 0 _ t; rw [hsg.nx] at this; exact this) E w' as' hrs hsg) hK hr
/-- a cell of a function's type, as it reads -/
theorem sf {P : Program} {W : World} {t : TypeId} {ps rs : Array TypeId} {va : Bool} {v : Value} {b : UInt8} {r : List UInt8} {f0 : FuncId} (hu : P.underlying t = some (.func ps rs va)) (hv : IsFunc v) (hd : veil (funcToken P) t v = .held (b :: r))
  (hone : ((List.range P.funcs.size).filter fun f => (P.funcs[f]?).any (·.name.toUTF8.data.toList == b :: r)) = [f0]) : v = .func (.func f0) #[] #[] :=
 Go.func_of_trod (w := W) (base := 0) (sp := fun _ => true) (fuel := 1) (q := []) hu hone (by
  have := trod_func (enc := funcToken P) hu (W := W) (base := 0) (sp := fun _ => true) hv 0
  rw [hd] at this
  exact this)
end Go.AB
namespace Go.Proofs.YtgffhbbcpgdjjaaGreatDoor
set_option maxRecDepth 10000
open Go.ChangeShapes Go.WideShapes Go.ChangeAt Go.RowKit Go.AB
open Go.AB.Enc (cells)
open Go.PB (bg aj PlaceD ck az ak dc ce)
instance : OpensE Tryz.prog 47 ck := .reader (tI := 3) (by kernel_rfl)
instance : OpensE Tryz.prog 25 (List ck) := .slice (e := 47) (by kernel_rfl) (by decide)
instance : OpensE Tryz.prog 36 (List PlaceD) := .slice (e := 41) (by kernel_rfl) (by decide)
instance : OpensE Tryz.prog 38 az := .page (tI := 3) (tL := 36) (by kernel_rfl)
instance : OpensE Tryz.prog 26 (List az) := .slice (e := 38) (by kernel_rfl) (by decide)
theorem ucw : jv Tryz.prog 28 [(0, 24, 1), (1, 25, 1), (2, 25, 1), (3, 26, 1)] 4 = true := by kernel_rfl
instance : OpensE Tryz.prog 28 ak := .proofs (tT := 24) (tR := 25) (tP := 26) ucw
theorem u8OkL : uv Tryz.prog 5 .u8 = true := by kernel_rfl
theorem gSides : Tryz.prog.globalNamed "postil/proof.sides" = some 0 := by kernel_rfl
theorem tSides : (Tryz.prog.globals[0]?).map (·.type) = some 108 := by kernel_rfl
theorem uh2 : Tryz.prog.underlying 108 = some (.array 2 107) := by kernel_rfl
theorem uoq : Tryz.prog.cellsOf 108 = 6 := by kernel_rfl
theorem uf7 : Tryz.prog.cellsOf 107 = 3 := by kernel_rfl
theorem ucf : jv Tryz.prog 107 [(0, 103, 1), (1, 104, 1), (2, 105, 1)] 3 = true := by kernel_rfl
theorem uff : ∃ ps rs va, Tryz.prog.underlying 103 = some (.func ps rs va) := uap (by kernel_rfl)
theorem ufh : ∃ ps rs va, Tryz.prog.underlying 104 = some (.func ps rs va) := uap (by kernel_rfl)
theorem ufg : ∃ ps rs va, Tryz.prog.underlying 105 = some (.func ps rs va) := uap (by kernel_rfl)
theorem ub9 {W : World} {m : Nat} {cs : List Value} {y : DataW (List UInt8) × List MemPlace} {d0 d1 d2 : DataW (List UInt8)} (hy : y.1 = .agg [d0, d1, d2])
  (h : DataW.trod (funcToken Tryz.prog) Tryz.prog W 0 (fun _ => true) true m 107 cs = some y) : ∃ v0 v1 v2, cs = [v0, v1, v2] ∧ (IsFunc v0 ∧ veil (funcToken Tryz.prog) 103 v0 = d0) ∧ (IsFunc v1 ∧ veil (funcToken Tryz.prog) 104 v1 = d1) ∧ (IsFunc v2 ∧ veil (funcToken Tryz.prog) 105 v2 = d2) := by
 obtain ⟨_, fs, he⟩ := vy ucf
 obtain ⟨xs, m', _, e1, hl, hlen, hf⟩ := DataW.trod_struct he h
 rw [uf7] at hl
 have hfs : fs.toList.map (fun f => (f.offset, f.type, Tryz.prog.cellsOf f.type)) = [(0, 103, 1), (1, 104, 1), (2, 105, 1)] := by
  have := ucf
  unfold jv at this
  rw [he] at this
  simp only [Bool.and_eq_true, beq_iff_eq] at this
  exact this.1
 obtain ⟨l⟩ := fs
 match l, hfs with
 | [f0, f1, f2], hfs =>
  simp only [List.map_cons, List.map_nil, List.cons.injEq, Prod.mk.injEq, and_true] at hfs
  obtain ⟨⟨a1, a2, a3⟩, ⟨b1, b2, b3⟩, ⟨c1, c2, c3⟩⟩ := hfs
  have h0 := hf 0 f0 rfl
  have h1 := hf 1 f1 rfl
  have h2 := hf 2 f2 rfl
  match cs, hl with
  | [u0, u1, u2], _ =>
   match xs, hlen with
   | [x0, x1, x2], _ =>
    subst e1
    simp only [List.map_cons, List.map_nil, DataW.agg.injEq, List.cons.injEq, and_true] at hy
    rw [a3, a1, a2] at h0
    rw [b3, b1, b2] at h1
    rw [c3, c1, c2] at h2
    obtain ⟨ps, rs, va, hu⟩ := uff
    obtain ⟨ps', rs', va', hu'⟩ := ufh
    obtain ⟨ps2, rs2, va2, hu2⟩ := ufg
    obtain ⟨v0, q0, q1, q2⟩ := Go.RowKit.func_of_trod hu h0
    obtain ⟨v1, q3, q4, q5⟩ := Go.RowKit.func_of_trod hu' h1
    obtain ⟨v2, q6, q7, q8⟩ := Go.RowKit.func_of_trod hu2 h2
    have e0 : u0 = v0 := by simpa using q0
    have e1 : u1 = v1 := by simpa using q3
    have e2 : u2 = v2 := by simpa using q6
    subst e0; subst e1; subst e2
    have hx0 : x0 = (veil (funcToken Tryz.prog) 103 u0, []) := by simpa using q2
    have hx1 : x1 = (veil (funcToken Tryz.prog) 104 u1, []) := by simpa using q5
    have hx2 : x2 = (veil (funcToken Tryz.prog) 105 u2, []) := by simpa using q8
    subst hx0; subst hx1; subst hx2
    obtain ⟨k0, k1, k2⟩ := hy
    exact ⟨u0, u1, u2, rfl, ⟨q1, k0⟩, ⟨q4, k1⟩, ⟨q7, k2⟩⟩
 | [], hfs => exact absurd hfs (by simp)
 | [_], hfs => exact absurd hfs (by simp)
 | [_, _], hfs => exact absurd hfs (by simp)
 | _ :: _ :: _ :: _ :: _, hfs => exact absurd hfs (by simp)
theorem uiv {W : World} (h : funcsAt Tryz.prog W "postil/proof.sides" (.agg [.agg [.iface "func" (.lit (.string [112, 111, 115, 116, 105, 108, 47, 112, 114, 111, 111, 102, 46, 115, 105, 100, 101, 115, 36, 49])), .iface "func" (.lit (.string [112, 111, 115, 116, 105, 108, 47, 112, 114, 111, 111, 102, 46, 115, 105, 100, 101, 115, 36, 50])), .iface "func" (.lit (.string [112, 111, 115, 116, 105, 108, 47, 112, 114, 111, 111, 102, 46, 115, 105, 100, 101, 115, 36, 51]))], .agg [.iface "func" (.lit (.string [112, 111, 115, 116, 105, 108, 47, 112, 114, 111, 111, 102, 46, 115, 105, 100, 101, 115, 36, 52])), .iface "func" (.lit (.string [112, 111, 115, 116, 105, 108, 47, 112, 114, 111, 111, 102, 46, 115, 105, 100, 101, 115, 36, 53])), .iface "func" (.lit (.string [112, 111, 115, 116, 105, 108, 47, 112, 114, 111, 111, 102, 46, 115, 105, 100, 101, 115, 36, 54]))]])) : R (j2 W) W (.elem sidL) (.pointer (some ⟨0, 0, none⟩)) := by
 obtain ⟨g, t, cs, fuel, p, hg, ht, hv, hd⟩ := h
 obtain rfl := Option.some.inj (gSides.symm.trans hg)
 obtain rfl := Option.some.inj (tSides.symm.trans ht)
 obtain ⟨xs, m, _, e1, hl, hn, hel⟩ := DataW.trod_array uh2 hd
 rw [uoq] at hl
 rw [uf7] at hel
 have hcell := fun i => World.var?_cell hg hv i
 obtain ⟨l⟩ := cs
 dsimp only at hl hel hcell
 match l, hl with
 | [u0, u1, u2, u3, u4, u5], _ =>
  match xs, hn with
  | [x0, x1], _ =>
   simp only [Prod.mk.injEq] at e1
   have e2 : (.agg [.agg [.held [112, 111, 115, 116, 105, 108, 47, 112, 114, 111, 111, 102, 46, 115, 105, 100, 101, 115, 36, 49], .held [112, 111, 115, 116, 105, 108, 47, 112, 114, 111, 111, 102, 46, 115, 105, 100, 101, 115, 36, 50], .held [112, 111, 115, 116, 105, 108, 47, 112, 114, 111, 111, 102, 46, 115, 105, 100, 101, 115, 36, 51]], .agg [.held [112, 111, 115, 116, 105, 108, 47, 112, 114, 111, 111, 102, 46, 115, 105, 100, 101, 115, 36, 52], .held [112, 111, 115, 116, 105, 108, 47, 112, 114, 111, 111, 102, 46, 115, 105, 100, 101, 115, 36, 53], .held [112, 111, 115, 116, 105, 108, 47, 112, 114, 111, 111, 102, 46, 115, 105, 100, 101, 115, 36, 54]]] : DataW (List UInt8)) = .agg [x0.1, x1.1] := e1.1
   simp only [DataW.agg.injEq, List.cons.injEq, and_true] at e2
   obtain ⟨a0, a1, a2, q0, ⟨a3, a4⟩, ⟨a5, a6⟩, ⟨a7, a8⟩⟩ := ub9 e2.1.symm (hel 0 (by omega))
   obtain ⟨b0, b1, b2, q1, ⟨b3, b4⟩, ⟨b5, b6⟩, ⟨b7, b8⟩⟩ := ub9 e2.2.symm (hel 1 (by omega))
   simp only [Nat.zero_mul, Nat.one_mul, List.drop_zero, List.drop_succ_cons, List.take_succ_cons, List.take_zero, List.cons.injEq, and_true] at q0 q1
   obtain ⟨rfl, rfl, rfl⟩ := q0
   obtain ⟨rfl, rfl, rfl⟩ := q1
   obtain ⟨ps, rs, va, hu⟩ := uff
   obtain ⟨ps', rs', va', hu'⟩ := ufh
   obtain ⟨ps2, rs2, va2, hu2⟩ := ufg
   obtain rfl := sf (W := W) (f0 := 135) hu a3 a4 (by kernel_rfl)
   obtain rfl := sf (W := W) (f0 := 136) hu' a5 a6 (by kernel_rfl)
   obtain rfl := sf (W := W) (f0 := 137) hu2 a7 a8 (by kernel_rfl)
   obtain rfl := sf (W := W) (f0 := 138) hu b3 b4 (by kernel_rfl)
   obtain rfl := sf (W := W) (f0 := 139) hu' b5 b6 (by kernel_rfl)
   obtain rfl := sf (W := W) (f0 := 140) hu2 b7 b8 (by kernel_rfl)
   let L : List Value := [.func (.func 135) #[] #[], .func (.func 136) #[] #[], .func (.func 137) #[] #[], .func (.func 138) #[] #[], .func (.func 139) #[] #[], .func (.func 140) #[] #[]]
   refine unu (by simp [sidL, oe]) (by intro c hc; simp only [sidL, oe, List.cons_append, List.nil_append, List.mem_cons, List.not_mem_nil, or_false] at hc; rcases hc with rfl | rfl | rfl | rfl | rfl | rfl <;> rfl) (fun j => L.getD j undef) (fun j hj => ?_) (fun j c hc => ?_)
   ·have := hcell j
    have hj' : j < 6 := hj
    rw [this]
    show (L.toArray)[j]? = _
    rw [List.getElem?_toArray, List.getD_eq_getElem?_getD, List.getElem?_eq_getElem (show j < L.length from hj')]
    rfl
   ·match j, hc with
    | 0, hc => cases hc; exact Rs.fn (vs := []) Rs.nil
    | 1, hc => cases hc; exact Rs.fn (vs := []) Rs.nil
    | 2, hc => cases hc; exact Rs.fn (vs := []) Rs.nil
    | 3, hc => cases hc; exact Rs.fn (vs := []) Rs.nil
    | 4, hc => cases hc; exact Rs.fn (vs := []) Rs.nil
    | 5, hc => cases hc; exact Rs.fn (vs := []) Rs.nil
abbrev uq : List (String × DataW Unit) := [("postil/proof.sides", Rows.laid_postil_proof_sides)]
set_option maxRecDepth 100000 in
/-- The door's own heap meets the condition. -/
theorem un4 (os : Os) (args : Array Value) : laidMetH Tryz.prog uq ((World.doorLaid Tryz.prog 600 os).forCall (fun _ _ => 0) ⟨#[], args, []⟩).memory :=
 laidMetH_of_parts3 (fuel := 8) (laidMet_of_run' 8 (by kernel_rfl) (by kernel_rfl)) (by kernel_rfl) (by kernel_rfl)
theorem uiu {W : World} (h : laidMetH Tryz.prog uq W) : R (j2 W) W (.elem sidL) (.pointer (some ⟨0, 0, none⟩)) := uiv (h.funcs (List.mem_cons_self ..))
end Go.Proofs.YtgffhbbcpgdjjaaGreatDoor
namespace Go.AB
open Go Go.RowKit Go.ChangeShapes Go.WideShapes
section
variable {H : Type} {enc : TypeId × Value → H} {P : Program} {w : World} {base : Nat} {spare : Nat → Bool} {held : Bool}
end
end Go.AB
