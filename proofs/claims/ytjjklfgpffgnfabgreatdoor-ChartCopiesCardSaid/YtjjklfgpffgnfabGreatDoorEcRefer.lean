/-
 Contracts of the program's functions of charts: references, and where they lead.
-/
import Derived.Test.YtjjklfgpffgnfabGreatDoorEbRef
import Derived.Test.YtjjklfgpffgnfabGreatDoorCyPlain
namespace Go.AB
open Go Go.RowKit
open Go.AB.Enc (cells)
open Go.PB (bh af PlaceD ar bp cj)
def ne (t : af) : C := bif bw t then .elem [lst t] else .v (.pointer none)
theorem ujz (t : af) (m : Nat) : (ne t).low m := by
 unfold ne
 cases bw t
 ·exact .v
 exact .elem (am (bd _ _) bn)
def ld (t : af) (p : PlaceD) : Int := bif bw t then (bif fe t p then 0 else 12) else 10
def n7 (t : af) (p : PlaceD) : C := bif bw t && fe t p then .elem [lst t] else .v (.pointer none)
theorem ujj (t : af) (p : PlaceD) (m : Nat) : (n7 t p).low m := by
 unfold n7
 cases bw t && fe t p
 ·exact .v
 exact .elem (am (bd _ _) bn)
def zj (t : af) (p : PlaceD) : ByteArray := bif bw t && fe t p then (((ei t (p.ch, p.ln)).getD [])[p.wd.toNat]?).getD ⟨#[]⟩ else ⟨#[]⟩
theorem placeB_len {t : af} {p : PlaceD} : fe t p = jv 0 ((((ei t (p.ch, p.ln)).getD []).length : Int) - 1) [p.wd] := by
 rw [gk]
 unfold fe
 cases ei t (p.ch, p.ln) with
 | some l => rfl
 | none =>
  rw [eq_comm, Bool.eq_false_iff]
  intro h
  rw [inB_true] at h
  simp at h
  omega
/-- the reference by a map -/
def rfV (f : L2 → Option L2) (p : PlaceD) : dd := match f (p.ch, p.ln) with
 | some v => ⟨v.1, v.2, p.wd + 1⟩
 | none => ⟨0, 0, 0⟩
def ldO (t : af) (b : L2 → Option L2) (r : dd) : Option PlaceD := match b (r.ch, r.ln) with
 | none => none
 | some p => bif decide ((((ei t p).getD []).length : Int) < r.wd) then none else some ⟨p.1, p.2, r.wd - 1⟩
theorem kj (t : af) (ss : List StretchD) (r : dd) : ldO t (cn ss) r = iu t ss r := rfl
theorem sy {f : L2 → Option L2} {p v : L2} (h : f p = some v) : (a8 f p).getD (ia (.agg #[.int .i64 0, .int .i64 0])) = .agg [.v (.int .i64 v.1), .v (.int .i64 v.2)] := by simp [a8, h, o9]
end Go.AB
namespace Go.Proofs.YtjjklfgpffgnfabGreatDoor
set_option maxRecDepth 10000
open Go.RowKit Go.AB
open Go.AB.Enc (cells)
open Go.PB (bh af PlaceD ar bp cj)
theorem ucq (t : af) : ce Tryz.prog 92 [b7 t] (.tup [ne t, .v (.int .i64 (fq t))]) := by
 refine cv Tryz.func92 rfl (fun m => .tup (am (ujz _ _) (am .v bn))) fun G nx => ?_
 simp only [Tryz.ntmps92, List.length_cons, List.length_nil, Nat.reduceAdd, Nat.reduceSub]
 refine bf fun hlt => ?_
 dsimp only at hlt
 refine yS fun _ K1 => ?_
 refine yR ?_
 try dsimp only [St.put]
 refine yB rfl rfl rfl ?_
 refine yA rfl rfl ?_
 refine yA rfl rfl ?_
 refine yN ?_
 dsimp only [St.put]
 refine K1 _ ?_
 refine yS fun _ K2 => ?_
 refine yS fun _ K3 => ?_
 refine yR ?_
 try dsimp only [St.put]
 refine ba rfl (bk rfl rfl rfl) ?_
 try dsimp only [St.put]
 refine ae rfl (a7 rfl rfl rfl (ucr t) ?_)
 refine yA rfl rfl ?_
 refine yN ?_
 dsimp only [St.put]
 refine K3 _ ?_
 refine yS fun _ K4 => ?_
 refine yR ?_
 refine yM rfl rfl ?_
 refine aa rfl (cz rfl rfl rfl) ?_
 refine yN ?_
 dsimp only [St.put]
 refine K4 _ ?_
 refine ak rfl (fun hc => ?_) (fun hc => ?_)
 ·have htx : bw t = false := by
   cases h : bw t
   ·rfl
   simp [fq, h] at hc
  refine yS fun _ K5 => ?_
  refine yR ?_
  refine yM rfl rfl ?_
  refine yA rfl rfl ?_
  refine yA rfl rfl ?_
  refine yN ?_
  dsimp only [St.put]
  refine K5 _ ?_
  refine aj ?_
  refine ix rfl (by constructor) (by constructor) zN zS ?_ ?_
  ·simp [ne, htx]
  rfl
 have htx : bw t = true := by
  cases h : bw t
  ·simp [fq, h] at hc
  rfl
 refine aq ?_
 refine K2 _ ?_
 refine yS fun _ K6 => ?_
 refine yR ?_
 try dsimp only [St.put]
 refine ba rfl (bk rfl rfl rfl) ?_
 refine aa rfl (dg rfl rfl) ?_
 try dsimp only [St.put]
 refine ae rfl (vj (cs := [lst t]) rfl rfl (by simp) ?_)
 refine yA rfl rfl ?_
 refine yA rfl rfl ?_
 refine yN ?_
 dsimp only [St.put]
 refine K6 _ ?_
 refine aj ?_
 refine ix rfl (by constructor) (by constructor) zN zS ?_ ?_
 ·simp [ne, htx]
 exact vi (by simp [fq, htx])
theorem um (t : af) (p : PlaceD) (ht : bw t = true) : ce Tryz.prog 121 [.elem [lst t], val p] (lst ((ei t (p.ch, p.ln)).getD [])) := by
 refine cv Tryz.func121 rfl (fun m => (bd _ _)) fun G nx => ?_
 simp only [Tryz.ntmps121, List.length_cons, List.length_nil, Nat.reduceAdd, Nat.reduceSub]
 refine bf fun hlt => ?_
 dsimp only at hlt
 obtain ⟨hl1, hl2, hl3⟩ := kh ht
 refine yS fun _ K1 => ?_
 refine yR ?_
 try dsimp only [St.put]
 refine yB rfl rfl rfl ?_
 refine yA rfl rfl ?_
 refine yN ?_
 dsimp only [St.put]
 refine K1 _ ?_
 refine yS fun _ K2 => ?_
 refine di 5 ?_
 simp only [cx, bi, Nat.reduceAdd, List.getD_cons_zero, List.getD_cons_succ, List.getD_nil, dc, Nat.reduceBEq, cond_true, cond_false]
 refine mn (X := Bool) (fun b => b = !(ei t (p.ch, p.ln)).isSome) (fun b => [(35, .v (.bool b))]) (fun b G' => G') rfl ?_ (fun _ _ _ _ h => .inl h) ?_ ?_
 ·rintro b hI
  exact zL
 ·refine ml [(0, none), (1, none), (2, none), (3, none), (4, none), (5, none), (6, none), (7, none), (8, none)] (fun _ => false) (fun i => [0, 1, 2, 3, 5, 6, 7].contains i) 22 [true, true, true, true, true, true, true, true, true, false, false, false, false, false, false, false, false, false, false, false, false, false, false, false, false, false, false, false, false, false, false] (by kernel_rfl) (by kernel_rfl) ?_
  refine xM rfl rfl rfl rfl rfl ?_
  refine ai rfl rfl rfl rfl (ie rfl rfl) ?_
  refine ai rfl rfl rfl rfl (cd rfl rfl rfl) ?_
  refine ai rfl rfl rfl rfl (cd rfl rfl rfl) ?_
  try dsimp only [St.put]
  refine az rfl rfl rfl rfl (bq rfl rfl) ?_
  refine ai rfl rfl rfl rfl (bx rfl rfl (List.length_map _)) ?_
  refine ai rfl rfl rfl rfl (g9 rfl rfl rfl (by omega)) ?_
  refine ai rfl rfl rfl rfl (cd rfl rfl rfl) ?_
  try dsimp only [St.put]
  refine az rfl rfl rfl rfl (bq rfl rfl) ?_
  refine b9 ?_
  refine bv [9] (by kernel_rfl) (by simp) ?_
  refine bo ?_ ?_
  ·try dsimp only [St.put]
   refine bz rfl rfl rfl (cq rfl rfl rfl (by decide) (by decide) zR (by decide) ?_)
   refine bv [10] (by kernel_rfl) (by simp) ?_
   refine bo ?_ ?_
   ·try dsimp only [St.put]
    refine bz rfl rfl rfl (a7 rfl rfl rfl (lh _ _ [p.ch]) ?_)
    refine cy [(11, none), (12, none), (13, none), (14, none), (15, none), (16, none), (17, none), (18, none), (19, none), (20, none), (21, none), (22, none), (23, none), (24, none), (25, none), (26, none)] (fun i => [11, 12, 13, 14, 15, 16, 18, 20, 21, 23, 24, 25].contains i) 4 [true, true, true, true, true, true, true, true, true, true, true, true, true, true, true, true, true, true, true, true, true, true, true, true, true, true, true, false, false, false, false] (by kernel_rfl) ?_
    refine ai rfl rfl rfl rfl (c9 rfl rfl) ?_
    refine xM rfl rfl rfl rfl rfl ?_
    refine p5 (fun hs => ?_) (fun hs => ?_)
    ·have h8 : inB p.ch 0 ((t.length : Int) - 1) = false := by rw [gk] at hs; simpa using hs
     refine bc rfl rfl rfl ?_
     refine bc rfl rfl rfl ?_
     refine bc rfl rfl rfl ?_
     refine bc rfl rfl rfl ?_
     refine bc rfl rfl rfl ?_
     refine bc rfl rfl rfl ?_
     refine bc rfl rfl rfl ?_
     refine bc rfl rfl rfl ?_
     refine bc rfl rfl rfl ?_
     refine bc rfl rfl rfl ?_
     refine bc rfl rfl rfl ?_
     refine bc rfl rfl rfl ?_
     refine bc rfl rfl rfl ?_
     refine bc rfl rfl rfl ?_
     refine b9 ?_
     refine bv [27] (by kernel_rfl) (by simp) ?_
     refine bo ?_ ?_
     ·refine k9 rfl rfl rfl ?_
      refine bv [28] (by kernel_rfl) (by simp) ?_
      refine bo ?_ ?_
      ·refine k9 rfl rfl rfl ?_
       refine cy [(29, none), (30, none)] (fun i => [29, 30].contains i) 0 [true, true, true, true, true, true, true, true, true, true, true, true, true, true, true, true, true, true, true, true, true, true, true, true, true, true, true, true, true, true, true] (by kernel_rfl) ?_
       refine bc rfl rfl rfl ?_
       refine ai rfl rfl rfl rfl (co rfl rfl (by constructor)) ?_
       refine b9 ?_
       dsimp only [St.put]
       refine g6 (by kernel_rfl) ?_
       refine ⟨_, ?_, ⟨⟨rfl, rfl⟩, zF, zB, zN, zX⟩⟩
       rw [z6]
       (simp [h8]; done)
      exact bu
     exact bu
    have h8 : inB p.ch 0 ((t.length : Int) - 1) = true := by rw [gk] at hs; simpa using hs
    have hn1' := h8
    simp only [inB_true] at hn1'
    obtain ⟨c, hcx⟩ : ∃ c, t[p.ch.toNat]? = some c := dw (by omega)
    have hnl : f7 t p.ch = c.lines.length := by simp [f7, hcx]
    have hll := (hl3 c (e8 hcx)).2.1
    have hch : p.ch = ((p.ch.toNat : Nat) : Int) := by omega
    refine xM rfl rfl rfl rfl rfl ?_
    refine ai rfl rfl rfl rfl (ie rfl rfl) ?_
    refine ai rfl rfl rfl rfl (cd rfl rfl rfl) ?_
    refine ai rfl rfl rfl rfl (cd rfl rfl rfl) ?_
    try dsimp only [St.put]
    refine az rfl rfl rfl rfl (bq rfl rfl) ?_
    refine ai rfl rfl rfl rfl (cd rfl rfl rfl) ?_
    try dsimp only [St.put]
    refine az rfl rfl rfl rfl (bq rfl rfl) ?_
    try dsimp only [St.put]
    refine ai rfl rfl rfl rfl (b8 rfl rfl rfl (by omega) (cg (by assumption)) (Enc.len _)) ?_
    refine ai rfl rfl rfl rfl (cd rfl rfl rfl) ?_
    try dsimp only [St.put]
    refine az rfl rfl rfl rfl (bq rfl rfl) ?_
    refine ai rfl rfl rfl rfl (bx rfl rfl (List.length_map _)) ?_
    refine ai rfl rfl rfl rfl (g9 rfl rfl rfl (by omega)) ?_
    refine ai rfl rfl rfl rfl (cd rfl rfl rfl) ?_
    try dsimp only [St.put]
    refine az rfl rfl rfl rfl (bq rfl rfl) ?_
    refine b9 ?_
    refine bv [27] (by kernel_rfl) (by simp) ?_
    refine bo ?_ ?_
    ·try dsimp only [St.put]
     refine bz rfl rfl rfl (cq rfl rfl rfl (by decide) (by decide) zR (by decide) ?_)
     refine bv [28] (by kernel_rfl) (by simp) ?_
     refine bo ?_ ?_
     ·try dsimp only [St.put]
      refine bz rfl rfl rfl (a7 rfl rfl rfl (lh _ _ [p.ln]) ?_)
      refine cy [(29, none), (30, none)] (fun i => [29, 30].contains i) 0 [true, true, true, true, true, true, true, true, true, true, true, true, true, true, true, true, true, true, true, true, true, true, true, true, true, true, true, true, true, true, true] (by kernel_rfl) ?_
      refine ai rfl rfl rfl rfl (c9 rfl rfl) ?_
      refine ai rfl rfl rfl rfl (dh rfl rfl (by constructor)) ?_
      refine b9 ?_
      dsimp only [St.put]
      refine g6 (by kernel_rfl) ?_
      refine ⟨_, ?_, ⟨⟨rfl, rfl⟩, zF, zB, zN, zX⟩⟩
      rw [z6]
      (simp [h8, hnl, gk]; done)
     exact bu
    exact bu
   exact bu
  exact bu
 rintro b hst
 dsimp only at hst ⊢
 refine ak rfl (fun hc => ?_) (fun hc => ?_)
 ·have hw : ei t (p.ch, p.ln) = none := by rw [hc] at hst; simpa using hst.symm
  refine yS fun _ K4 => ?_
  refine yR ?_
  refine yA rfl rfl ?_
  refine yN ?_
  dsimp only [St.put]
  refine K4 _ ?_
  refine aj ?_
  refine jw rfl (ci (by constructor)) zN zS ?_
  rw [hw]
  exact zW
 have hw0 : (ei t (p.ch, p.ln)).isSome = true := by rw [hc] at hst; simpa using hst.symm
 obtain ⟨l, hw⟩ := Option.isSome_iff_exists.1 hw0
 obtain ⟨k, n, c, hkn, hk, hn⟩ := tg hw
 have hch : p.ch = ((k : Nat) : Int) := congrArg Prod.fst hkn
 have hln : p.ln = ((n : Nat) : Int) := congrArg Prod.snd hkn
 refine aq ?_
 refine K2 _ ?_
 refine yS fun _ K5 => ?_
 refine gh [(0, none), (1, none), (2, none), (3, none), (4, none), (5, none), (6, none), (7, none), (8, none), (9, none), (10, none), (11, none), (12, none), (13, none), (14, none)] (fun i => [].contains i) (fun i => [].contains i) (fun i => [0, 1, 2, 3, 5, 7, 8, 10, 12, 14].contains i) [] (by kernel_rfl) (by kernel_rfl) ?_
 refine xM rfl rfl rfl rfl rfl ?_
 refine ai rfl rfl rfl rfl (ie rfl rfl) ?_
 refine ai rfl rfl rfl rfl (cd rfl rfl rfl) ?_
 refine ai rfl rfl rfl rfl (cd rfl rfl rfl) ?_
 try dsimp only [St.put]
 refine az rfl rfl rfl rfl (bq rfl rfl) ?_
 refine ai rfl rfl rfl rfl (cd rfl rfl rfl) ?_
 try dsimp only [St.put]
 refine az rfl rfl rfl rfl (bq rfl rfl) ?_
 try dsimp only [St.put]
 refine ai rfl rfl rfl rfl (b8 rfl rfl rfl (by omega) (cg (by assumption)) (Enc.len _)) ?_
 refine ai rfl rfl rfl rfl (cd rfl rfl rfl) ?_
 try dsimp only [St.put]
 refine az rfl rfl rfl rfl (bq rfl rfl) ?_
 refine ai rfl rfl rfl rfl (cd rfl rfl rfl) ?_
 try dsimp only [St.put]
 refine az rfl rfl rfl rfl (bq rfl rfl) ?_
 try dsimp only [St.put]
 refine ai rfl rfl rfl rfl (b8 rfl rfl rfl (by omega) (cg (by assumption)) (Enc.len _)) ?_
 try dsimp only [St.put]
 refine az rfl rfl rfl rfl (bq rfl rfl) ?_
 refine ai rfl rfl rfl rfl (eh rfl (by constructor)) ?_
 refine b9 ?_
 dsimp only [St.put]
 refine K5 _ ?_
 refine aj ?_
 refine jw rfl (ci (by constructor)) zN zS ?_
 rw [hw]
 exact zW
theorem ulm (t : af) (p : PlaceD) (ht : bw t = true) : ce Tryz.prog 93 [.elem [lst t], val p] (.v (.bool (fe t p))) := by
 refine cv Tryz.func93 rfl (fun m => .v) fun G nx => ?_
 simp only [Tryz.ntmps93, List.length_cons, List.length_nil, Nat.reduceAdd, Nat.reduceSub]
 refine bf fun hlt => ?_
 dsimp only at hlt
 have hwl := uf7 ht (p.ch, p.ln)
 refine yS fun _ K1 => ?_
 refine yR ?_
 try dsimp only [St.put]
 refine yB rfl rfl rfl ?_
 refine yA rfl rfl ?_
 refine yN ?_
 dsimp only [St.put]
 refine K1 _ ?_
 refine yS fun _ K2 => ?_
 refine ml [(0, none), (1, none), (5, none), (6, none)] (fun _ => false) (fun i => [0, 5].contains i) 6 [true, true, false, false, false, true, true, false, false, false] (by kernel_rfl) (by kernel_rfl) ?_
 refine xM rfl rfl rfl rfl rfl ?_
 try dsimp only [St.put]
 refine az rfl rfl rfl rfl (bk rfl rfl (Enc.len _)) ?_
 refine ai rfl rfl rfl rfl (cd rfl rfl rfl) ?_
 try dsimp only [St.put]
 refine az rfl rfl rfl rfl (bq rfl rfl) ?_
 refine b9 ?_
 refine bv [2, 7] (by kernel_rfl) (by simp) ?_
 refine bo ?_ ?_
 ·try dsimp only [St.put]
  refine bz rfl rfl rfl (a7 rfl rfl rfl (um t p ht) ?_)
  refine cy [(3, none), (4, none)] (fun i => [3, 4].contains i) 3 [true, true, true, true, true, true, true, false, false, false] (by kernel_rfl) ?_
  refine ai rfl rfl rfl rfl (bx rfl rfl (List.length_map _)) ?_
  refine ai rfl rfl rfl rfl (g9 rfl rfl rfl (by omega)) ?_
  refine b9 ?_
  refine bv [7] (by kernel_rfl) (by simp) ?_
  refine bo ?_ ?_
  ·try dsimp only [St.put]
   refine bz rfl rfl rfl (cq rfl rfl rfl (by decide) (by decide) zR (by decide) ?_)
   refine bv [8] (by kernel_rfl) (by simp) ?_
   refine bo ?_ ?_
   ·try dsimp only [St.put]
    refine bz rfl rfl rfl (a7 rfl rfl rfl (lh _ _ [p.wd]) ?_)
    refine cy [(9, none)] (fun i => [9].contains i) 0 [true, true, true, true, true, true, true, true, true, true] (by kernel_rfl) ?_
    refine ai rfl rfl rfl rfl (eh rfl (by constructor)) ?_
    refine b9 ?_
    dsimp only [St.put]
    refine g6 (by kernel_rfl) ?_
    refine K2 _ ?_
    refine aj ?_
    refine ay rfl (by constructor) zN zS ?_
    exact vb placeB_len.symm
   exact bu
  exact bu
 refine bo ?_ ?_
 ·try dsimp only [St.put]
  refine bz rfl rfl rfl (cq rfl rfl rfl (by decide) (by decide) zR (by decide) ?_)
  refine bv [2] (by kernel_rfl) (by simp) ?_
  refine bo ?_ ?_
  ·try dsimp only [St.put]
   refine bz rfl rfl rfl (a7 rfl rfl rfl (um t p ht) ?_)
   refine cy [(3, none), (4, none)] (fun i => [3, 4].contains i) 2 [true, true, true, true, true, true, true, true, false, false] (by kernel_rfl) ?_
   refine ai rfl rfl rfl rfl (bx rfl rfl (List.length_map _)) ?_
   refine ai rfl rfl rfl rfl (g9 rfl rfl rfl (by omega)) ?_
   refine b9 ?_
   refine bv [8] (by kernel_rfl) (by simp) ?_
   refine bo ?_ ?_
   ·try dsimp only [St.put]
    refine bz rfl rfl rfl (a7 rfl rfl rfl (lh _ _ [p.wd]) ?_)
    refine cy [(9, none)] (fun i => [9].contains i) 0 [true, true, true, true, true, true, true, true, true, true] (by kernel_rfl) ?_
    refine ai rfl rfl rfl rfl (eh rfl (by constructor)) ?_
    refine b9 ?_
    dsimp only [St.put]
    refine g6 (by kernel_rfl) ?_
    refine K2 _ ?_
    refine aj ?_
    refine ay rfl (by constructor) zN zS ?_
    exact vb placeB_len.symm
   exact bu
  exact bu
 exact bu
theorem ulj (t : af) (p : PlaceD) : ce Tryz.prog 67 [b7 t, val p] (.tup [n7 t p, .v (.int .i64 (ld t p))]) := by
 refine cv Tryz.func67 rfl (fun m => .tup (am (ujj _ _ _) (am .v bn))) fun G nx => ?_
 simp only [Tryz.ntmps67, List.length_cons, List.length_nil, Nat.reduceAdd, Nat.reduceSub]
 refine bf fun hlt => ?_
 dsimp only at hlt
 refine yS fun _ K1 => ?_
 refine yR ?_
 try dsimp only [St.put]
 refine yB rfl rfl rfl ?_
 try dsimp only [St.put]
 refine yB rfl rfl rfl ?_
 refine yA rfl rfl ?_
 refine yA rfl rfl ?_
 refine yN ?_
 dsimp only [St.put]
 refine K1 _ ?_
 refine yS fun _ K2 => ?_
 refine yR ?_
 try dsimp only [St.put]
 refine ba rfl (bk rfl rfl rfl) ?_
 try dsimp only [St.put]
 refine ae rfl (a7 rfl rfl rfl (ucq t) ?_)
 refine yM rfl rfl ?_
 refine yX rfl rfl rfl rfl ?_
 refine yX rfl rfl rfl rfl ?_
 refine yA rfl rfl ?_
 refine yA rfl rfl ?_
 refine yN ?_
 dsimp only [St.put]
 refine K2 _ ?_
 refine yS fun _ K3 => ?_
 refine yS fun _ K4 => ?_
 refine yR ?_
 refine yM rfl rfl ?_
 refine aa rfl (cz rfl rfl rfl) ?_
 refine yN ?_
 dsimp only [St.put]
 refine K4 _ ?_
 refine ak rfl (fun hc => ?_) (fun hc => ?_)
 ·have htx : bw t = false := by
   cases h : bw t
   ·rfl
   simp [fq, h] at hc
  refine yS fun _ K5 => ?_
  refine yR ?_
  refine yM rfl rfl ?_
  refine yA rfl rfl ?_
  refine yA rfl rfl ?_
  refine yN ?_
  dsimp only [St.put]
  refine K5 _ ?_
  refine aj ?_
  refine ix rfl (by constructor) (by constructor) zN zS ?_ ?_
  ·simp [n7, htx]
  exact vi (by simp [ld, fq, htx])
 have htx : bw t = true := by
  cases h : bw t
  ·simp [fq, h] at hc
  rfl
 rw [show ne t = .elem [lst t] by simp [ne, htx]]
 refine aq ?_
 refine K3 _ ?_
 refine yS fun _ K6 => ?_
 refine yS fun _ K7 => ?_
 refine yR ?_
 refine yM rfl rfl ?_
 refine yE rfl rfl rfl ?_
 try dsimp only [St.put]
 refine ae rfl (a7 rfl rfl rfl (ulm t p htx) ?_)
 refine aa rfl (c9 rfl rfl) ?_
 refine yN ?_
 dsimp only [St.put]
 refine K7 _ ?_
 refine ak rfl (fun hc => ?_) (fun hc => ?_)
 ·have h1 : fe t p = false := by simpa using hc
  refine yS fun _ K8 => ?_
  refine yR ?_
  refine yA rfl rfl ?_
  refine yA rfl rfl ?_
  refine yN ?_
  dsimp only [St.put]
  refine K8 _ ?_
  refine aj ?_
  refine ix rfl (by constructor) (by constructor) zN zS ?_ ?_
  ·simp [n7, h1]
  exact vi (by simp [ld, htx, h1])
 have h1 : fe t p = true := by simpa using hc
 refine aq ?_
 refine K6 _ ?_
 refine yS fun _ K9 => ?_
 refine yR ?_
 refine yM rfl rfl ?_
 refine yA rfl rfl ?_
 refine yA rfl rfl ?_
 refine yN ?_
 dsimp only [St.put]
 refine K9 _ ?_
 refine aj ?_
 refine ix rfl (by constructor) (by constructor) zN zS ?_ ?_
 ·simp [n7, htx, h1]
 exact vi (by simp [ld, htx, h1])
theorem ucs (t : af) (p : PlaceD) : ce Tryz.prog 84 [b7 t, val p] (.tup [.v (.string (zj t p)), .v (.int .i64 (ld t p))]) := by
 refine cv Tryz.func84 rfl (fun m => .tup (am .v (am .v bn))) fun G nx => ?_
 simp only [Tryz.ntmps84, List.length_cons, List.length_nil, Nat.reduceAdd, Nat.reduceSub]
 refine bf fun hlt => ?_
 dsimp only at hlt
 refine yS fun _ K1 => ?_
 refine yR ?_
 try dsimp only [St.put]
 refine yB rfl rfl rfl ?_
 try dsimp only [St.put]
 refine yB rfl rfl rfl ?_
 refine yA rfl rfl ?_
 refine yA rfl rfl ?_
 refine yN ?_
 dsimp only [St.put]
 refine K1 _ ?_
 refine yS fun _ K2 => ?_
 refine yR ?_
 try dsimp only [St.put]
 refine ba rfl (bk rfl rfl rfl) ?_
 refine yE rfl rfl rfl ?_
 try dsimp only [St.put]
 refine ae rfl (a7 rfl rfl rfl (ulj t p) ?_)
 refine yM rfl rfl ?_
 refine yX rfl rfl rfl rfl ?_
 refine yX rfl rfl rfl rfl ?_
 refine yA rfl rfl ?_
 refine yA rfl rfl ?_
 refine yN ?_
 dsimp only [St.put]
 refine K2 _ ?_
 refine yS fun _ K3 => ?_
 refine yS fun _ K4 => ?_
 refine yR ?_
 refine yM rfl rfl ?_
 refine aa rfl (cz rfl rfl rfl) ?_
 refine yN ?_
 dsimp only [St.put]
 refine K4 _ ?_
 refine ak rfl (fun hc => ?_) (fun hc => ?_)
 ·have h0 : ¬ ld t p = 0 := mx hc
  have h1 : (bw t && fe t p) = false := by
   cases h : bw t <;> cases h' : fe t p <;> simp [ld, h, h'] at h0 ⊢
  refine yS fun _ K5 => ?_
  refine yR ?_
  refine yM rfl rfl ?_
  refine yA rfl rfl ?_
  refine yA rfl rfl ?_
  refine yN ?_
  dsimp only [St.put]
  refine K5 _ ?_
  refine aj ?_
  refine ix rfl (by constructor) (by constructor) zN zS ?_ ?_
  ·exact vs (by simp [zj, h1])
  rfl
 have h0 : ld t p = 0 := kw hc
 have h1 : bw t = true ∧ fe t p = true := by
  cases h : bw t <;> cases h' : fe t p <;> simp [ld, h, h'] at h0 ⊢
 obtain ⟨l, hw, hw1, hw2⟩ := placeB_true.1 h1.2
 obtain ⟨s, hs⟩ : ∃ s, l[p.wd.toNat]? = some s := dw (by omega)
 have hwd : p.wd = ((p.wd.toNat : Nat) : Int) := by omega
 have hs' : ((ei t (p.ch, p.ln)).getD [])[p.wd.toNat]? = some s := by rw [hw]; exact hs
 rw [show n7 t p = .elem [lst t] by simp [n7, h1]]
 refine aq ?_
 refine K3 _ ?_
 refine yS fun _ K6 => ?_
 refine gh [(0, none), (1, none), (3, none), (4, none), (2, none), (5, none), (6, none), (7, none), (8, none)] (fun i => [6].contains i) (fun i => [2, 6].contains i) (fun i => [0, 3, 5, 7, 8].contains i) [] (by kernel_rfl) (by kernel_rfl) ?_
 refine xM rfl rfl rfl rfl rfl ?_
 try dsimp only [St.put]
 refine az rfl rfl rfl rfl (bk rfl rfl (Enc.len _)) ?_
 refine ai rfl rfl rfl rfl (cd rfl rfl rfl) ?_
 try dsimp only [St.put]
 refine az rfl rfl rfl rfl (bq rfl rfl) ?_
 refine il ?_
 try dsimp only [St.put]
 refine jp rfl rfl rfl (a7 rfl rfl rfl (um t p h1.1) ⟨zD, ?_⟩)
 try dsimp only [St.put]
 refine jl rfl rfl rfl rfl (b8 (k := p.wd.toNat) rfl rfl rfl (by exact hwd) (cg hs') (Enc.len _)) ?_
 try dsimp only [St.put]
 refine gl rfl rfl rfl rfl (SStep.e' (bq (D := fun _ => True) rfl rfl) ?_)
 refine jl rfl rfl rfl rfl (eh rfl (by constructor)) ?_
 refine jl rfl rfl rfl rfl (eh rfl (by constructor)) ?_
 refine ij ?_
 dsimp only [St.put]
 refine K6 _ ?_
 refine aj ?_
 refine ix rfl (by constructor) (by constructor) zN zS ?_ ?_
 ·exact vs (by simp [zj, h1, hw, hs])
 exact vi h0.symm
/-! ### Books -/
theorem pv (t : af) (e : aw) (n m V : Nat) (f : L2 → Option L2) (p : PlaceD) (hp : -100000 ≤ p.wd ∧ p.wd ≤ 100000) (G : Nat → Option GObj) (nx : Nat) (hn : n < nx) (hm : m < nx) (hG : G n = some (bl Tryz.prog 95 V (a8 f))) :
  PC Tryz.prog 45 [.elem (gg t e n m), val p] G nx fun r' G' nx' => r' = .tup [val (rfV f p), .v (.bool (f (p.ch, p.ln)).isSome)] ∧ G' = G ∧ nx' = nx := by
 refine j6 (G) (nx) Tryz.func45 rfl (.tup (am (da _ _) (am .v bn))) zN (fun hlt => zH) ?_
 simp only [Tryz.ntmps45, List.length_cons, List.length_nil, Nat.reduceAdd, Nat.reduceSub]
 refine bf fun hlt => ?_
 dsimp only at hlt
 refine yS fun _ K1 => ?_
 refine yR ?_
 try dsimp only [St.put]
 refine yB rfl rfl rfl ?_
 try dsimp only [St.put]
 refine ae rfl (bj rfl ?_)
 refine yA rfl rfl ?_
 refine yN ?_
 dsimp only [St.put]
 refine K1 _ ?_
 refine yS fun _ K2 => ?_
 obtain ⟨v1, hv1⟩ : ∃ v : L2, (a8 f (p.ch, p.ln)).getD (ia (.agg #[.int .i64 0, .int .i64 0])) = .agg [.v (.int .i64 v.1), .v (.int .i64 v.2)] := oh _ _
 obtain ⟨b1, hb1⟩ : ∃ b, (a8 f (p.ch, p.ln)).isSome = b := ⟨_, rfl⟩
 have hb2 : (f (p.ch, p.ln)).isSome = b1 := by rw [← hb1]; simp [a8]
 refine gh [(0, none), (1, none), (2, none), (3, none), (4, none), (5, none), (6, none), (7, none), (8, none), (9, none), (10, none), (11, none), (12, none), (13, none), (14, none), (15, none)] (fun i => [14].contains i) (fun i => [13, 14].contains i) (fun i => [0, 1, 2, 4, 6, 8, 10, 11, 12, 15].contains i) [n] (by kernel_rfl) (by kernel_rfl) ?_
 refine xM rfl rfl rfl rfl rfl ?_
 refine ai rfl rfl rfl rfl (ie rfl rfl) ?_
 refine ai rfl rfl rfl rfl (cd rfl rfl rfl) ?_
 try dsimp only [St.put]
 refine az rfl rfl rfl rfl (bq rfl rfl) ?_
 refine ai rfl rfl rfl rfl (cd rfl rfl rfl) ?_
 try dsimp only [St.put]
 refine az rfl rfl rfl rfl (bq rfl rfl) ?_
 refine ai rfl rfl rfl rfl (cd rfl rfl rfl) ?_
 try dsimp only [St.put]
 refine az rfl rfl rfl rfl (bq rfl rfl) ?_
 refine ai rfl rfl rfl rfl (i3 rfl rfl) ?_
 try dsimp only [St.put]
 refine az rfl rfl rfl rfl (n3 ((p.ch, p.ln) : L2) rfl rfl zG (by simp) rfl hv1 hb1) ?_
 refine xM rfl rfl rfl rfl rfl ?_
 refine ai rfl rfl rfl rfl (d9 rfl rfl rfl) ?_
 refine ai rfl rfl rfl rfl (d9 rfl rfl rfl) ?_
 refine il ?_
 try dsimp only [St.put]
 refine jp rfl rfl rfl (bj rfl ⟨zD, ?_⟩)
 try dsimp only [St.put]
 refine gl rfl rfl rfl rfl (ax rfl rfl rfl zG rfl rfl (by rfl) ?_)
 refine jl rfl rfl rfl rfl (eh rfl (by constructor)) ?_
 refine ij ?_
 dsimp only [St.put]
 refine K2 _ ?_
 refine yS fun _ K3 => ?_
 refine yS fun _ K4 => ?_
 refine yR ?_
 refine yM rfl rfl ?_
 refine aa rfl (c9 rfl rfl) ?_
 refine yN ?_
 dsimp only [St.put]
 refine K4 _ ?_
 refine ak rfl (fun hc => ?_) (fun hc => ?_)
 ·have hb0 : b1 = false := by simpa using hc
  have hf : f (p.ch, p.ln) = none := by rw [hb0] at hb2; simpa using hb2
  refine yS fun _ K5 => ?_
  refine yR ?_
  refine aa rfl (dg rfl rfl) ?_
  try dsimp only [St.put]
  refine ae rfl (ax rfl rfl rfl zG rfl rfl (by rfl) ?_)
  refine yA rfl rfl ?_
  refine yN ?_
  dsimp only [St.put]
  refine K5 _ ?_
  refine aj ?_
  refine dj rfl (dr rfl zG (by rfl) (by first | exact List.cons_ne_nil _ _ | (simp; done) | (simp [putAt]; done)) rfl) (ci (by constructor)) zN zS ?_ ?_
  ·rw [show rfV f p = ⟨0, 0, 0⟩ by simp [rfV, hf]]
   exact zW
  rw [hf]; exact Wk.refl _
 have hb0 : b1 = true := by simpa using hc
 obtain ⟨v, hf⟩ : ∃ v, f (p.ch, p.ln) = some v := Option.isSome_iff_exists.1 (hb2.trans hb0)
 have hvv : v1 = v := by
  rw [sy hf] at hv1
  simp only [C.agg.injEq, List.cons.injEq, C.v.injEq, Value.int.injEq, true_and, and_true] at hv1
  exact (Prod.ext hv1.1 hv1.2).symm
 subst hvv
 refine aq ?_
 refine K3 _ ?_
 refine yS fun _ K6 => ?_
 refine yR ?_
 try dsimp only [St.put]
 refine aa rfl (ub4 (k := 0) rfl rfl rfl (by first | exact rfl | omega) (by first | decide | omega)) ?_
 try dsimp only [St.put]
 refine ba rfl (i7 rfl rfl zG trivial (by first | rfl | assumption)) ?_
 try dsimp only [St.put]
 refine aa rfl (ub4 (k := 1) rfl rfl rfl (by first | exact rfl | omega) (by first | decide | omega)) ?_
 try dsimp only [St.put]
 refine ba rfl (i7 rfl rfl zG trivial (by first | rfl | assumption)) ?_
 refine yF rfl rfl rfl rfl ?_
 refine yL rfl rfl rfl ?_
 refine aa rfl (ca rfl rfl rfl (by omega)) ?_
 refine aa rfl (dg rfl rfl) ?_
 try dsimp only [St.put]
 refine ae rfl (ax rfl rfl rfl zG rfl rfl (by rfl) ?_)
 refine yA rfl rfl ?_
 refine yN ?_
 dsimp only [St.put]
 refine K6 _ ?_
 refine aj ?_
 refine dj rfl (dr rfl zG (by rfl) (by first | exact List.cons_ne_nil _ _ | (simp; done) | (simp [putAt]; done)) rfl) (ci (by constructor)) zN zS ?_ ?_
 ·rw [show rfV f p = ⟨v1.1, v1.2, p.wd + 1⟩ by simp [rfV, hf]]
  exact zW
 rw [hf]; exact Wk.refl _
theorem s0 (t : af) (e : aw) (n m V : Nat) (b : L2 → Option L2) (r : dd) (ht : bw t = true) (hb : ∀ q p, b q = some p → ∃ l, ei t p = some l) (hr : gt r = true) (G : Nat → Option GObj) (nx : Nat) (hn : n < nx) (hm : m < nx) (hG : G m = some (bl Tryz.prog 95 V (a8 b))) :
  PC Tryz.prog 43 [.elem (gg t e n m), val r] G nx fun r' G' nx' => r' = .tup [val ((ldO t b r).getD ⟨0, 0, 0⟩), .v (.bool (ldO t b r).isSome)] ∧ G' = G ∧ nx' = nx := by
 refine j6 (G) (nx) Tryz.func43 rfl (.tup (am (da _ _) (am .v bn))) zN (fun hlt => zH) ?_
 simp only [Tryz.ntmps43, List.length_cons, List.length_nil, Nat.reduceAdd, Nat.reduceSub]
 refine bf fun hlt => ?_
 dsimp only at hlt
 have hr' := hr
 simp only [gt, Bool.and_eq_true, inB_true] at hr'
 refine yS fun _ K1 => ?_
 refine yR ?_
 try dsimp only [St.put]
 refine yB rfl rfl rfl ?_
 try dsimp only [St.put]
 refine ae rfl (bj rfl ?_)
 refine yA rfl rfl ?_
 refine yN ?_
 dsimp only [St.put]
 refine K1 _ ?_
 refine yS fun _ K2 => ?_
 obtain ⟨v1, hv1⟩ : ∃ v : L2, (a8 b (r.ch, r.ln)).getD (ia (.agg #[.int .i64 0, .int .i64 0])) = .agg [.v (.int .i64 v.1), .v (.int .i64 v.2)] := oh _ _
 obtain ⟨b1, hb1⟩ : ∃ x, (a8 b (r.ch, r.ln)).isSome = x := ⟨_, rfl⟩
 have hb2 : (b (r.ch, r.ln)).isSome = b1 := by rw [← hb1]; simp [a8]
 refine gh [(0, none), (1, none), (2, none), (3, none), (4, none), (5, none), (6, none), (7, none), (8, none), (9, none), (10, none), (11, none), (12, none), (13, none), (14, none), (15, none)] (fun i => [14].contains i) (fun i => [13, 14].contains i) (fun i => [0, 1, 2, 4, 6, 8, 10, 11, 12, 15].contains i) [m] (by kernel_rfl) (by kernel_rfl) ?_
 refine xM rfl rfl rfl rfl rfl ?_
 refine ai rfl rfl rfl rfl (ie rfl rfl) ?_
 refine ai rfl rfl rfl rfl (cd rfl rfl rfl) ?_
 try dsimp only [St.put]
 refine az rfl rfl rfl rfl (bq rfl rfl) ?_
 refine ai rfl rfl rfl rfl (cd rfl rfl rfl) ?_
 try dsimp only [St.put]
 refine az rfl rfl rfl rfl (bq rfl rfl) ?_
 refine ai rfl rfl rfl rfl (cd rfl rfl rfl) ?_
 try dsimp only [St.put]
 refine az rfl rfl rfl rfl (bq rfl rfl) ?_
 refine ai rfl rfl rfl rfl (i3 rfl rfl) ?_
 try dsimp only [St.put]
 refine az rfl rfl rfl rfl (n3 ((r.ch, r.ln) : L2) rfl rfl zG (by simp) rfl hv1 hb1) ?_
 refine xM rfl rfl rfl rfl rfl ?_
 refine ai rfl rfl rfl rfl (d9 rfl rfl rfl) ?_
 refine ai rfl rfl rfl rfl (d9 rfl rfl rfl) ?_
 refine il ?_
 try dsimp only [St.put]
 refine jp rfl rfl rfl (bj rfl ⟨zD, ?_⟩)
 try dsimp only [St.put]
 refine gl rfl rfl rfl rfl (ax rfl rfl rfl zG rfl rfl (by rfl) ?_)
 refine jl rfl rfl rfl rfl (eh rfl (by constructor)) ?_
 refine ij ?_
 dsimp only [St.put]
 refine K2 _ ?_
 refine cw (i := 6) rfl zG (by first | exact List.cons_ne_nil _ _ | (simp; done) | (simp [putAt]; done)) ?_
 dsimp only
 refine yS fun _ K3 => ?_
 refine di 21 ?_
 simp only [cx, bi, Nat.reduceAdd, List.getD_cons_zero, List.getD_cons_succ, List.getD_nil, dc, Nat.reduceBEq, cond_true, cond_false]
 refine mn (X := Bool) (fun y => y = !(ldO t b r).isSome) (fun y => [(42, .v (.bool y))]) (fun y G' => G') rfl ?_ (fun _ _ _ _ h => .inl h) ?_ ?_
 ·rintro y hI
  exact zL
 ·refine gh [(0, none), (1, none), (2, none), (3, none), (4, none), (5, none), (6, none), (7, none), (8, none), (9, none), (10, none), (11, none), (12, none), (13, none), (14, none), (15, none), (16, none), (17, none), (18, none), (19, none), (20, none), (21, none)] (fun i => [].contains i) (fun i => [].contains i) (fun i => [0, 1, 2, 3, 5, 6, 7, 8, 10, 12, 13, 15, 17, 19, 20, 21].contains i) [] (by kernel_rfl) (by kernel_rfl) ?_
  refine xM rfl rfl rfl rfl rfl ?_
  refine ai rfl rfl rfl rfl (c9 rfl rfl) ?_
  refine xM rfl rfl rfl rfl rfl ?_
  refine p5 (fun hs => ?_) (fun hs => ?_)
  ·have hf : b (r.ch, r.ln) = none := by
    have : b1 = false := by simpa using hs
    rw [this] at hb2; simpa using hb2
   refine bc rfl rfl rfl ?_
   refine bc rfl rfl rfl ?_
   refine bc rfl rfl rfl ?_
   refine bc rfl rfl rfl ?_
   refine bc rfl rfl rfl ?_
   refine bc rfl rfl rfl ?_
   refine bc rfl rfl rfl ?_
   refine bc rfl rfl rfl ?_
   refine bc rfl rfl rfl ?_
   refine bc rfl rfl rfl ?_
   refine bc rfl rfl rfl ?_
   refine bc rfl rfl rfl ?_
   refine bc rfl rfl rfl ?_
   refine bc rfl rfl rfl ?_
   refine bc rfl rfl rfl ?_
   refine bc rfl rfl rfl ?_
   refine bc rfl rfl rfl ?_
   refine bc rfl rfl rfl ?_
   refine ai rfl rfl rfl rfl (co rfl rfl (by constructor)) ?_
   refine b9 ?_
   dsimp only [St.put]
   refine ⟨_, ?_, ⟨⟨rfl, rfl⟩, zF, zB, zN, zX⟩⟩
   (simp [ldO, hf]; done)
  have hb0 : b1 = true := by simpa using hs
  obtain ⟨v, hf⟩ : ∃ v, b (r.ch, r.ln) = some v := Option.isSome_iff_exists.1 (hb2.trans hb0)
  have hvv : v1 = v := by
   rw [sy hf] at hv1
   simp only [C.agg.injEq, List.cons.injEq, C.v.injEq, Value.int.injEq, true_and, and_true] at hv1
   exact (Prod.ext hv1.1 hv1.2).symm
  subst hvv
  obtain ⟨l, hw⟩ := hb _ _ hf
  obtain ⟨k, i, c, hkn, hk, hi⟩ := tg hw
  have hwl := m6 ht hw
  have hch : v1.1 = ((k : Nat) : Int) := congrArg Prod.fst hkn
  have hln : v1.2 = ((i : Nat) : Int) := congrArg Prod.snd hkn
  refine ai rfl rfl rfl rfl (cd rfl rfl rfl) ?_
  try dsimp only [St.put]
  refine az rfl rfl rfl rfl (bq rfl rfl) ?_
  refine xM rfl rfl rfl rfl rfl ?_
  refine ai rfl rfl rfl rfl (ie rfl rfl) ?_
  refine ai rfl rfl rfl rfl (cd rfl rfl rfl) ?_
  refine ai rfl rfl rfl rfl (cd rfl rfl rfl) ?_
  try dsimp only [St.put]
  refine az rfl rfl rfl rfl (bq rfl rfl) ?_
  try dsimp only [St.put]
  refine ai rfl rfl rfl rfl (em (k := 0) rfl rfl rfl (by first | exact rfl | omega) (by first | decide | omega) rfl) ?_
  try dsimp only [St.put]
  refine az rfl rfl rfl rfl (bq rfl rfl) ?_
  try dsimp only [St.put]
  refine ai rfl rfl rfl rfl (b8 rfl rfl rfl (by omega) (cg (by assumption)) (Enc.len _)) ?_
  refine ai rfl rfl rfl rfl (cd rfl rfl rfl) ?_
  try dsimp only [St.put]
  refine az rfl rfl rfl rfl (bq rfl rfl) ?_
  try dsimp only [St.put]
  refine ai rfl rfl rfl rfl (em (k := 1) rfl rfl rfl (by first | exact rfl | omega) (by first | decide | omega) rfl) ?_
  try dsimp only [St.put]
  refine az rfl rfl rfl rfl (bq rfl rfl) ?_
  try dsimp only [St.put]
  refine ai rfl rfl rfl rfl (b8 rfl rfl rfl (by omega) (cg (by assumption)) (Enc.len _)) ?_
  try dsimp only [St.put]
  refine az rfl rfl rfl rfl (bq rfl rfl) ?_
  refine ai rfl rfl rfl rfl (bx rfl rfl (List.length_map _)) ?_
  refine ai rfl rfl rfl rfl (io rfl rfl rfl) ?_
  refine ai rfl rfl rfl rfl (dh rfl rfl (by constructor)) ?_
  refine b9 ?_
  dsimp only [St.put]
  refine ⟨_, ?_, ⟨⟨rfl, rfl⟩, zF, zB, zN, zX⟩⟩
  (rw [show ldO t b r = bif decide ((((ei t v1).getD []).length : Int) < r.wd) then none else some ⟨v1.1, v1.2, r.wd - 1⟩ by simp [ldO, hf], hw]; simp only [Option.getD_some]; cases hd : decide ((l.length : Int) < r.wd) <;> simp_all)
 rintro y hst
 dsimp only at hst ⊢
 refine ak rfl (fun hc => ?_) (fun hc => ?_)
 ·have hl0 : ldO t b r = none := by rw [hc] at hst; simpa using hst.symm
  refine yS fun _ K5 => ?_
  refine yR ?_
  refine aa rfl (dg rfl rfl) ?_
  try dsimp only [St.put]
  refine ae rfl (ax rfl rfl rfl zG rfl rfl (by rfl) ?_)
  refine yA rfl rfl ?_
  refine yN ?_
  dsimp only [St.put]
  refine K5 _ ?_
  refine aj ?_
  refine dj rfl (dr rfl zG (by rfl) (by first | exact List.cons_ne_nil _ _ | (simp; done) | (simp [putAt]; done)) rfl) (ci (by constructor)) zN zS ?_ ?_
  ·rw [hl0]
   exact zW
  rw [hl0]; exact Wk.refl _
 have hl1 : (ldO t b r).isSome = true := by rw [hc] at hst; simpa using hst.symm
 obtain ⟨v, hf, hlv⟩ : ∃ v, b (r.ch, r.ln) = some v ∧ ldO t b r = some ⟨v.1, v.2, r.wd - 1⟩ := by
  obtain ⟨q, hq⟩ := Option.isSome_iff_exists.1 hl1
  cases hf : b (r.ch, r.ln) with
  | none => simp [ldO, hf] at hq
  | some v =>
   refine ⟨v, rfl, ?_⟩
   simp only [ldO, hf] at hq ⊢
   cases hd : decide ((((ei t v).getD []).length : Int) < r.wd) with
   | true => rw [hd] at hq; cases hq
   | false => rfl
 have hvv : v1 = v := by
  rw [sy hf] at hv1
  simp only [C.agg.injEq, List.cons.injEq, C.v.injEq, Value.int.injEq, true_and, and_true] at hv1
  exact (Prod.ext hv1.1 hv1.2).symm
 subst hvv
 refine aq ?_
 refine K3 _ ?_
 refine yS fun _ K6 => ?_
 refine yR ?_
 try dsimp only [St.put]
 refine aa rfl (em (k := 0) rfl rfl rfl (by first | exact rfl | omega) (by first | decide | omega) rfl) ?_
 refine yL rfl rfl rfl ?_
 try dsimp only [St.put]
 refine aa rfl (em (k := 1) rfl rfl rfl (by first | exact rfl | omega) (by first | decide | omega) rfl) ?_
 refine yL rfl rfl rfl ?_
 refine yF rfl rfl rfl rfl ?_
 refine yL rfl rfl rfl ?_
 refine aa rfl (g9 rfl rfl rfl (by omega)) ?_
 refine aa rfl (dg rfl rfl) ?_
 try dsimp only [St.put]
 refine ae rfl (ax rfl rfl rfl zG rfl rfl (by rfl) ?_)
 refine yA rfl rfl ?_
 refine yN ?_
 dsimp only [St.put]
 refine K6 _ ?_
 refine aj ?_
 refine dj rfl (dr rfl zG (by rfl) (by first | exact List.cons_ne_nil _ _ | (simp; done) | (simp [putAt]; done)) rfl) (ci (by constructor)) zN zS ?_ ?_
 ·rw [hlv]
  exact zW
 rw [hlv]; exact Wk.refl _
theorem uex (t : af) (e : aw) (p : PlaceD) (hl : e.ss.length ≤ 20) (h : cb t e = 0) (hp : fe t p = true) (G : Nat → Option GObj) (nx : Nat) (hF : G 0 = some cr) :
  PC Tryz.prog 57 [b7 t, val e, val p] G nx fun r G' nx' => ∃ y : Nat × Nat, r = .tup [.elem (gg t e (nx + 1 + 1) (nx + 1 + 1 + 1)), .v (.int .i64 0)] ∧ G' = (ah (ah G (nx + 1 + 1) (bl Tryz.prog 95 y.1 (a8 ((av e.ss))))) (nx + 1 + 1 + 1) (bl Tryz.prog 95 y.2 (a8 ((cn e.ss))))) ∧ nx' = nx + 1 + 1 + 1 + 1 := by
 refine qg (fun (y : Nat × Nat) => (ah (ah G (nx + 1 + 1) (bl Tryz.prog 95 y.1 (a8 ((av e.ss))))) (nx + 1 + 1 + 1) (bl Tryz.prog 95 y.2 (a8 ((cn e.ss)))))) (nx + 1 + 1 + 1 + 1) Tryz.func57 rfl (.tup (am ((.elem (am .v (am (bd _ _) (am (bd _ _) (am (.map (show nx + 1 + 1 < nx + 1 + 1 + 1 + 1 by omega)) (am (.map (show nx + 1 + 1 + 1 < nx + 1 + 1 + 1 + 1 by omega)) bn))))))) (am .v bn))) zN (fun hlt y => (by (repeat' (refine f9 ?_ (by (try dsimp only); omega) ?_)); all_goals (first | exact gw zS | (repeat' (first | exact trivial | refine ⟨?_, ?_⟩ | exact .v | exact .any | refine .elem ?_ | exact bd _ _ | exact ed _ _ | exact da _ _ | exact eg _ (by (try dsimp only); omega) | exact .box (by (try dsimp only); omega) | exact dp | exact bn | exact gd (fo _ _) | refine ef ?_ ?_ | exact .arr (by (try dsimp only); omega) | exact .own (by (try dsimp only); omega) | exact .map (by (try dsimp only); omega) | exact du _ | refine am ?_ ?_ | exact bd _ _))))) ?_
 simp only [Tryz.ntmps57, List.length_cons, List.length_nil, Nat.reduceAdd, Nat.reduceSub]
 refine bf fun hlt => ?_
 dsimp only at hlt
 have hnx := hlt 0 _ hF
 obtain ⟨ht, hl12, he⟩ := k8 (lp h).1
 refine yS fun _ K1 => ?_
 refine yR ?_
 try dsimp only [St.put]
 refine yB rfl rfl rfl ?_
 try dsimp only [St.put]
 refine yB rfl rfl rfl ?_
 try dsimp only [St.put]
 refine yB rfl rfl rfl ?_
 refine yA rfl rfl ?_
 refine yA rfl rfl ?_
 refine yN ?_
 dsimp only [St.put]
 refine K1 _ ?_
 refine yS fun _ K2 => ?_
 refine yR ?_
 try dsimp only [St.put]
 refine ba rfl (bk rfl rfl rfl) ?_
 refine yE rfl rfl rfl ?_
 try dsimp only [St.put]
 refine ae rfl (cq rfl rfl rfl (by decide) (by decide) zR (by decide) ?_)
 try dsimp only [St.put]
 refine ae rfl (iy rfl rfl rfl (qc t e hl h _ _ zG) (fun y => ?_))
 refine yM rfl rfl ?_
 refine yX rfl rfl rfl rfl ?_
 refine yX rfl rfl rfl rfl ?_
 refine yA rfl rfl ?_
 refine yA rfl rfl ?_
 refine yN ?_
 dsimp only [St.put]
 refine K2 _ ?_
 refine yS fun _ K3 => ?_
 refine yS fun _ K4 => ?_
 refine yR ?_
 refine yM rfl rfl ?_
 refine aa rfl (br (c := false) (cz rfl rfl rfl) (by rfl)) ?_
 refine yN ?_
 dsimp only [St.put]
 refine K4 _ ?_
 refine ak rfl (fun h => by cases h) (fun _ => ?_)
 refine aq ?_
 refine K3 _ ?_
 refine yS fun _ K5 => ?_
 refine yS fun _ K6 => ?_
 refine yR ?_
 try dsimp only [St.put]
 refine ba rfl (bk rfl rfl rfl) ?_
 refine yE rfl rfl rfl ?_
 try dsimp only [St.put]
 refine ae rfl (a7 rfl rfl rfl (ucs t p) ?_)
 refine yM rfl rfl ?_
 refine yX rfl rfl rfl rfl ?_
 refine yX rfl rfl rfl rfl ?_
 refine yA rfl rfl ?_
 refine yA rfl rfl ?_
 refine yN ?_
 dsimp only [St.put]
 rw [show ld t p = 0 by simp [ld, ht, hp]]
 refine K6 _ ?_
 refine yS fun _ K7 => ?_
 refine yR ?_
 refine yM rfl rfl ?_
 refine aa rfl (br (c := false) (cz rfl rfl rfl) (by rfl)) ?_
 refine yN ?_
 dsimp only [St.put]
 refine K7 _ ?_
 refine ak rfl (fun h => by cases h) (fun _ => ?_)
 refine aq ?_
 refine K5 _ ?_
 refine yS fun _ K8 => ?_
 refine yR ?_
 refine yM rfl rfl ?_
 try dsimp only [St.put]
 refine aa rfl (b8 (k := 0) rfl rfl rfl (by first | rfl | omega) rfl rfl) ?_
 refine yL rfl rfl rfl ?_
 refine yA rfl rfl ?_
 refine yA rfl rfl ?_
 refine yN ?_
 dsimp only [St.put]
 refine K8 _ ?_
 refine aj ?_
 refine ⟨y, ?_⟩
 refine dj rfl (ci (by constructor)) (ci (by constructor)) zN zX ?_ ?_
 ·exact zW
 exact zW
theorem uez (t : af) (e : aw) (p : PlaceD) (hl : e.ss.length ≤ 20) (h : cb t e ≠ 0) :
  c8 cr Tryz.prog 57 [b7 t, val e, val p] (.tup [.v (.pointer none), .v (.int .i64 (cb t e))]) := by
 refine fw Tryz.func57 rfl (fun m => .tup (am .v (am .v bn))) fun G nx hF => ?_
 simp only [Tryz.ntmps57, List.length_cons, List.length_nil, Nat.reduceAdd, Nat.reduceSub]
 refine bf fun hlt => ?_
 dsimp only at hlt
 have hnx := hlt 0 _ hF
 refine yS fun _ K1 => ?_
 refine yR ?_
 try dsimp only [St.put]
 refine yB rfl rfl rfl ?_
 try dsimp only [St.put]
 refine yB rfl rfl rfl ?_
 try dsimp only [St.put]
 refine yB rfl rfl rfl ?_
 refine yA rfl rfl ?_
 refine yA rfl rfl ?_
 refine yN ?_
 dsimp only [St.put]
 refine K1 _ ?_
 refine yS fun _ K2 => ?_
 refine yR ?_
 try dsimp only [St.put]
 refine ba rfl (bk rfl rfl rfl) ?_
 refine yE rfl rfl rfl ?_
 try dsimp only [St.put]
 refine ae rfl (cq rfl rfl rfl (by decide) (by decide) zR (by decide) ?_)
 try dsimp only [St.put]
 refine ae rfl (dq rfl rfl rfl (rq t e hl h) zG ?_)
 refine yM rfl rfl ?_
 refine yX rfl rfl rfl rfl ?_
 refine yX rfl rfl rfl rfl ?_
 refine yA rfl rfl ?_
 refine yA rfl rfl ?_
 refine yN ?_
 dsimp only [St.put]
 refine K2 _ ?_
 refine yS fun _ K3 => ?_
 refine yS fun _ K4 => ?_
 refine yR ?_
 refine yM rfl rfl ?_
 refine aa rfl (br (c := true) (cz rfl rfl rfl) (lf h)) ?_
 refine yN ?_
 dsimp only [St.put]
 refine K4 _ ?_
 refine ak rfl (fun _ => ?_) (fun h => by cases h)
 refine yS fun _ K5 => ?_
 refine yR ?_
 refine yM rfl rfl ?_
 refine yA rfl rfl ?_
 refine yA rfl rfl ?_
 refine yN ?_
 dsimp only [St.put]
 refine K5 _ ?_
 refine aj ?_
 refine ix rfl (by constructor) (by constructor) zN zS ?_ ?_
 ·rfl
 rfl
theorem uey (t : af) (e : aw) (p : PlaceD) (hl : e.ss.length ≤ 20) (h : cb t e = 0) (hp : fe t p = false) :
  c8 cr Tryz.prog 57 [b7 t, val e, val p] (.tup [.v (.pointer none), .v (.int .i64 12)]) := by
 refine fw Tryz.func57 rfl (fun m => .tup (am .v (am .v bn))) fun G nx hF => ?_
 simp only [Tryz.ntmps57, List.length_cons, List.length_nil, Nat.reduceAdd, Nat.reduceSub]
 refine bf fun hlt => ?_
 dsimp only at hlt
 have hnx := hlt 0 _ hF
 obtain ⟨ht, hl12, he⟩ := k8 (lp h).1
 refine yS fun _ K1 => ?_
 refine yR ?_
 try dsimp only [St.put]
 refine yB rfl rfl rfl ?_
 try dsimp only [St.put]
 refine yB rfl rfl rfl ?_
 try dsimp only [St.put]
 refine yB rfl rfl rfl ?_
 refine yA rfl rfl ?_
 refine yA rfl rfl ?_
 refine yN ?_
 dsimp only [St.put]
 refine K1 _ ?_
 refine yS fun _ K2 => ?_
 refine yR ?_
 try dsimp only [St.put]
 refine ba rfl (bk rfl rfl rfl) ?_
 refine yE rfl rfl rfl ?_
 try dsimp only [St.put]
 refine ae rfl (cq rfl rfl rfl (by decide) (by decide) zR (by decide) ?_)
 try dsimp only [St.put]
 refine ae rfl (iy rfl rfl rfl (qc t e hl h _ _ zG) (fun y => ?_))
 refine yM rfl rfl ?_
 refine yX rfl rfl rfl rfl ?_
 refine yX rfl rfl rfl rfl ?_
 refine yA rfl rfl ?_
 refine yA rfl rfl ?_
 refine yN ?_
 dsimp only [St.put]
 refine K2 _ ?_
 refine yS fun _ K3 => ?_
 refine yS fun _ K4 => ?_
 refine yR ?_
 refine yM rfl rfl ?_
 refine aa rfl (br (c := false) (cz rfl rfl rfl) (by rfl)) ?_
 refine yN ?_
 dsimp only [St.put]
 refine K4 _ ?_
 refine ak rfl (fun h => by cases h) (fun _ => ?_)
 refine aq ?_
 refine K3 _ ?_
 refine yS fun _ K5 => ?_
 refine yS fun _ K6 => ?_
 refine yR ?_
 try dsimp only [St.put]
 refine ba rfl (bk rfl rfl rfl) ?_
 refine yE rfl rfl rfl ?_
 try dsimp only [St.put]
 refine ae rfl (a7 rfl rfl rfl (ucs t p) ?_)
 refine yM rfl rfl ?_
 refine yX rfl rfl rfl rfl ?_
 refine yX rfl rfl rfl rfl ?_
 refine yA rfl rfl ?_
 refine yA rfl rfl ?_
 refine yN ?_
 dsimp only [St.put]
 rw [show ld t p = 12 by simp [ld, ht, hp]]
 refine K6 _ ?_
 refine yS fun _ K7 => ?_
 refine yR ?_
 refine yM rfl rfl ?_
 refine aa rfl (br (c := true) (cz rfl rfl rfl) (by rfl)) ?_
 refine yN ?_
 dsimp only [St.put]
 refine K7 _ ?_
 refine ak rfl (fun _ => ?_) (fun h => by cases h)
 refine yS fun _ K8 => ?_
 refine yR ?_
 refine yM rfl rfl ?_
 refine yA rfl rfl ?_
 refine yA rfl rfl ?_
 refine yN ?_
 dsimp only [St.put]
 refine K8 _ ?_
 refine aj ?_
 refine ix rfl (by constructor) (by constructor) zN zS ?_ ?_
 ·rfl
 rfl
theorem upb (t : af) (e : aw) (p : PlaceD) (hl : e.ss.length ≤ 20) (h : cb t e = 0) (hp : fe t p = true) :
  c8 cr Tryz.prog 20 [b7 t, val e, val p] (.tup [val (g7 t e p), .v (.int .i64 (ec t e p))]) := by
 refine fw Tryz.func20 rfl (fun m => .tup (am (da _ _) (am .v bn))) fun G nx hF => ?_
 simp only [Tryz.ntmps20, List.length_cons, List.length_nil, Nat.reduceAdd, Nat.reduceSub]
 refine bf fun hlt => ?_
 dsimp only at hlt
 have hnx := hlt 0 _ hF
 obtain ⟨ht, hl12, he⟩ := k8 (lp h).1
 obtain ⟨l, hw, hw1, hw2⟩ := placeB_true.1 hp
 have hwl := m6 ht hw
 refine yS fun _ K1 => ?_
 refine yR ?_
 try dsimp only [St.put]
 refine yB rfl rfl rfl ?_
 try dsimp only [St.put]
 refine yB rfl rfl rfl ?_
 try dsimp only [St.put]
 refine yB rfl rfl rfl ?_
 try dsimp only [St.put]
 refine ae rfl (bj rfl ?_)
 refine yA rfl rfl ?_
 refine yN ?_
 dsimp only [St.put]
 refine K1 _ ?_
 refine yS fun _ K2 => ?_
 refine yR ?_
 try dsimp only [St.put]
 refine ba rfl (bk rfl rfl rfl) ?_
 refine yE rfl rfl rfl ?_
 refine yE rfl rfl rfl ?_
 try dsimp only [St.put]
 refine ae rfl (iy rfl rfl rfl (uex t e p hl h hp _ _ zG) (fun y => ?_))
 refine yM rfl rfl ?_
 refine yX rfl rfl rfl rfl ?_
 refine yX rfl rfl rfl rfl ?_
 refine yA rfl rfl ?_
 refine yA rfl rfl ?_
 refine yN ?_
 dsimp only [St.put]
 refine K2 _ ?_
 refine yS fun _ K3 => ?_
 refine yS fun _ K4 => ?_
 refine yR ?_
 refine yM rfl rfl ?_
 refine aa rfl (br (c := false) (cz rfl rfl rfl) (by rfl)) ?_
 refine yN ?_
 dsimp only [St.put]
 refine K4 _ ?_
 refine ak rfl (fun h => by cases h) (fun _ => ?_)
 refine aq ?_
 refine K3 _ ?_
 refine yS fun _ K5 => ?_
 refine yR ?_
 refine yM rfl rfl ?_
 refine yE rfl rfl rfl ?_
 try dsimp only [St.put]
 refine ae rfl (fg rfl rfl rfl (pv t e _ _ _ (av e.ss) p (by omega) _ _ (by dsimp only [St.put]; omega) (by dsimp only [St.put]; omega) zG) ?_)
 refine yM rfl rfl ?_
 refine yX rfl rfl rfl rfl ?_
 refine yX rfl rfl rfl rfl ?_
 try dsimp only [St.put]
 refine ae rfl (bj rfl ?_)
 try dsimp only [St.put]
 refine ae rfl (ax rfl rfl rfl zG rfl rfl (by rfl) ?_)
 refine yA rfl rfl ?_
 refine yN ?_
 dsimp only [St.put]
 refine K5 _ ?_
 refine yS fun _ K6 => ?_
 refine yS fun _ K7 => ?_
 refine yR ?_
 refine yM rfl rfl ?_
 refine aa rfl (c9 rfl rfl) ?_
 refine yN ?_
 dsimp only [St.put]
 refine K7 _ ?_
 refine ak rfl (fun hc => ?_) (fun hc => ?_)
 ·have hf : av e.ss (p.ch, p.ln) = none := by simpa using hc
  have hE : ec t e p = 6 := by simp [ec, h, hp, hf]
  have hV : g7 t e p = ⟨0, 0, 0⟩ := by simp [g7, hE]
  refine yS fun _ K8 => ?_
  refine yR ?_
  refine aa rfl (dg rfl rfl) ?_
  try dsimp only [St.put]
  refine ae rfl (ax rfl rfl rfl zG rfl rfl (by rfl) ?_)
  refine yA rfl rfl ?_
  refine yN ?_
  dsimp only [St.put]
  refine K8 _ ?_
  refine aj ?_
  refine dj rfl (dr rfl zG (by rfl) (by first | exact List.cons_ne_nil _ _ | (simp; done) | (simp [putAt]; done)) rfl) (ci (by constructor)) zN zS ?_ ?_
  ·rw [hV]
   exact zW
  exact Wk.of_eq (vi hE.symm)
 have hf : (av e.ss (p.ch, p.ln)).isSome = true := by simpa using hc
 have hE : ec t e p = 0 := by simp [ec, h, hp, hf]
 have hV : g7 t e p = rfV (av e.ss) p := by
  obtain ⟨v, hv⟩ := Option.isSome_iff_exists.1 hf
  simp [g7, hE, rfV, hv]
 refine aq ?_
 refine K6 _ ?_
 refine yS fun _ K9 => ?_
 refine yR ?_
 try dsimp only [St.put]
 refine ba rfl (i6 rfl rfl zG trivial (by rfl)) ?_
 try dsimp only [St.put]
 refine ae rfl (ax rfl rfl rfl zG rfl rfl (by rfl) ?_)
 refine yA rfl rfl ?_
 refine yN ?_
 dsimp only [St.put]
 refine K9 _ ?_
 refine aj ?_
 refine dj rfl (dr rfl zG (by rfl) (by first | exact List.cons_ne_nil _ _ | (simp; done) | (simp [putAt]; done)) rfl) (ci (by constructor)) zN zS ?_ ?_
 ·rw [hV]
  exact zW
 exact Wk.of_eq (vi hE.symm)
theorem uew (t : af) (e : aw) (p : PlaceD) (er : Int) (he0 : er ≠ 0) (hcall : c8 cr Tryz.prog 57 [b7 t, val e, val p] (.tup [.v (.pointer none), .v (.int .i64 er)])) :
  c8 cr Tryz.prog 20 [b7 t, val e, val p] (.tup [val (⟨0, 0, 0⟩ : dd), .v (.int .i64 er)]) := by
 refine fw Tryz.func20 rfl (fun m => .tup (am (da _ _) (am .v bn))) fun G nx hF => ?_
 simp only [Tryz.ntmps20, List.length_cons, List.length_nil, Nat.reduceAdd, Nat.reduceSub]
 refine bf fun hlt => ?_
 dsimp only at hlt
 have hnx := hlt 0 _ hF
 refine yS fun _ K1 => ?_
 refine yR ?_
 try dsimp only [St.put]
 refine yB rfl rfl rfl ?_
 try dsimp only [St.put]
 refine yB rfl rfl rfl ?_
 try dsimp only [St.put]
 refine yB rfl rfl rfl ?_
 try dsimp only [St.put]
 refine ae rfl (bj rfl ?_)
 refine yA rfl rfl ?_
 refine yN ?_
 dsimp only [St.put]
 refine K1 _ ?_
 refine yS fun _ K2 => ?_
 refine yR ?_
 try dsimp only [St.put]
 refine ba rfl (bk rfl rfl rfl) ?_
 refine yE rfl rfl rfl ?_
 refine yE rfl rfl rfl ?_
 try dsimp only [St.put]
 refine ae rfl (dq rfl rfl rfl (hcall) zG ?_)
 refine yM rfl rfl ?_
 refine yX rfl rfl rfl rfl ?_
 refine yX rfl rfl rfl rfl ?_
 refine yA rfl rfl ?_
 refine yA rfl rfl ?_
 refine yN ?_
 dsimp only [St.put]
 refine K2 _ ?_
 refine yS fun _ K3 => ?_
 refine yS fun _ K4 => ?_
 refine yR ?_
 refine yM rfl rfl ?_
 refine aa rfl (br (c := true) (cz rfl rfl rfl) (lf he0)) ?_
 refine yN ?_
 dsimp only [St.put]
 refine K4 _ ?_
 refine ak rfl (fun _ => ?_) (fun h => by cases h)
 refine yS fun _ K5 => ?_
 refine yR ?_
 refine aa rfl (dg rfl rfl) ?_
 refine yM rfl rfl ?_
 try dsimp only [St.put]
 refine ae rfl (ax rfl rfl rfl zG rfl rfl (by rfl) ?_)
 refine yA rfl rfl ?_
 refine yN ?_
 dsimp only [St.put]
 refine K5 _ ?_
 refine aj ?_
 refine dj rfl (dr rfl zG (by rfl) (by first | exact List.cons_ne_nil _ _ | (simp; done) | (simp [putAt]; done)) rfl) (ci (by constructor)) zN zS ?_ ?_
 ·exact zW
 exact zW
theorem sx (t : af) (e : aw) (p : PlaceD) (hl : e.ss.length ≤ 20) :
  c8 cr Tryz.prog 20 [b7 t, val e, val p] (.tup [val (g7 t e p), .v (.int .i64 (ec t e p))]) := by
 by_cases h : cb t e = 0
 ·cases hp : fe t p with
  | true => exact upb t e p hl h hp
  | false =>
   have hE : ec t e p = 12 := by simp [ec, h, hp]
   have hV : g7 t e p = ⟨0, 0, 0⟩ := by simp [g7, hE]
   rw [hV, hE]
   exact uew t e p 12 (by decide) (uey t e p hl h hp)
 have hE : ec t e p = cb t e := by simp [ec, h]
 have hV : g7 t e p = ⟨0, 0, 0⟩ := by simp [g7, hE, h]
 rw [hV, hE]
 exact uew t e p _ h (uez t e p hl h)
end Go.Proofs.YtjjklfgpffgnfabGreatDoor
