/-
 Contracts of the program's functions of charts: references, and where they lead.
-/
import Derived.Test.YtjjklfgpffgnfaaGreatDoorEbRef
import Derived.Test.YtjjklfgpffgnfaaGreatDoorCyPlain
namespace Go.AB
open Go Go.RowKit
open Go.AB.Enc (cells)
open Go.PB (bv ai PlaceD cy c6 cz)
def oo (t : ai) : C := bif ct t then .elem [lst t] else .v (.pointer none)
theorem ugi (t : ai) (m : Nat) : (oo t).low m := by
 unfold oo
 cases ct t
 ·exact .v
 exact .elem (ar (bh _ _) bl)
def kz (t : ai) (p : PlaceD) : Int := bif ct t then (bif gp t p then 0 else 12) else 10
def nw (t : ai) (p : PlaceD) : C := bif ct t && gp t p then .elem [lst t] else .v (.pointer none)
theorem ugb (t : ai) (p : PlaceD) (m : Nat) : (nw t p).low m := by
 unfold nw
 cases ct t && gp t p
 ·exact .v
 exact .elem (ar (bh _ _) bl)
def xp (t : ai) (p : PlaceD) : ByteArray := bif ct t && gp t p then (((fq t (p.ch, p.ln)).getD [])[p.wd.toNat]?).getD ⟨#[]⟩ else ⟨#[]⟩
theorem placeB_len {t : ai} {p : PlaceD} : gp t p = jp 0 ((((fq t (p.ch, p.ln)).getD []).length : Int) - 1) [p.wd] := by
 rw [iz]
 unfold gp
 cases fq t (p.ch, p.ln) with
 | some l => rfl
 | none =>
  rw [eq_comm, Bool.eq_false_iff]
  intro h
  rw [inB_true] at h
  simp at h
  omega
/-- the reference by a map -/
def rfV (f : L2 → Option L2) (p : PlaceD) : dm := match f (p.ch, p.ln) with
 | some v => ⟨v.1, v.2, p.wd + 1⟩
 | none => ⟨0, 0, 0⟩
def ldO (t : ai) (b : L2 → Option L2) (r : dm) : Option PlaceD := match b (r.ch, r.ln) with
 | none => none
 | some p => bif decide ((((fq t p).getD []).length : Int) < r.wd) then none else some ⟨p.1, p.2, r.wd - 1⟩
theorem j9 (t : ai) (ss : List StretchD) (r : dm) : ldO t (cn ss) r = iv t ss r := rfl
theorem ro {f : L2 → Option L2} {p v : L2} (h : f p = some v) : (az f p).getD (iw (.agg #[.int .i64 0, .int .i64 0])) = .agg [.v (.int .i64 v.1), .v (.int .i64 v.2)] := by simp [az, h, oh]
end Go.AB
namespace Go.Proofs.YtjjklfgpffgnfaaGreatDoor
set_option maxRecDepth 10000
open Go.RowKit Go.AB
open Go.AB.Enc (cells)
open Go.PB (bv ai PlaceD cy c6 cz)
theorem uhu (t : ai) : c8 Tryz.prog 77 [b8 t] (.tup [oo t, .v (.int .i64 (g5 t))]) := by
 refine dr Tryz.func77 rfl (fun m => .tup (ar (ugi _ _) (ar .v bl))) fun G nx => ?_
 simp only [Tryz.ntmps77, List.length_cons, List.length_nil, Nat.reduceAdd, Nat.reduceSub]
 refine bi fun hlt => ?_
 dsimp only at hlt
 refine yS fun _ K1 => ?_
 refine yR ?_
 try dsimp only [St.put]
 refine yB rfl rfl rfl ?_
 refine yA rfl rfl ?_
 refine yA rfl rfl ?_
 refine yN ?_
 dsimp only [St.put]
 refine K1 _ ?_
 refine yS fun _ K2 => ?_
 refine yS fun _ K3 => ?_
 refine yR ?_
 try dsimp only [St.put]
 refine af rfl (aq rfl rfl rfl) ?_
 try dsimp only [St.put]
 refine ae rfl (bd rfl rfl rfl (uaw t) ?_)
 refine yA rfl rfl ?_
 refine yN ?_
 dsimp only [St.put]
 refine K3 _ ?_
 refine yS fun _ K4 => ?_
 refine yR ?_
 refine yM rfl rfl ?_
 refine aa rfl (dt rfl rfl rfl) ?_
 refine yN ?_
 dsimp only [St.put]
 refine K4 _ ?_
 refine al rfl (fun hc => ?_) (fun hc => ?_)
 ·have htx : ct t = false := by
   cases h : ct t
   ·rfl
   simp [g5, h] at hc
  refine yS fun _ K5 => ?_
  refine yR ?_
  refine yM rfl rfl ?_
  refine yA rfl rfl ?_
  refine yA rfl rfl ?_
  refine yN ?_
  dsimp only [St.put]
  refine K5 _ ?_
  refine am ?_
  refine je rfl (by constructor) (by constructor) zN zS ?_ ?_
  ·simp [oo, htx]
  rfl
 have htx : ct t = true := by
  cases h : ct t
  ·simp [g5, h] at hc
  rfl
 refine aw ?_
 refine K2 _ ?_
 refine yS fun _ K6 => ?_
 refine yR ?_
 try dsimp only [St.put]
 refine af rfl (aq rfl rfl rfl) ?_
 refine aa rfl (du rfl rfl) ?_
 try dsimp only [St.put]
 refine ae rfl (o9 (cs := [lst t]) rfl rfl (by simp) ?_)
 refine yA rfl rfl ?_
 refine yA rfl rfl ?_
 refine yN ?_
 dsimp only [St.put]
 refine K6 _ ?_
 refine am ?_
 refine je rfl (by constructor) (by constructor) zN zS ?_ ?_
 ·simp [oo, htx]
 exact vi (by simp [g5, htx])
theorem vx (t : ai) (p : PlaceD) (ht : ct t = true) : c8 Tryz.prog 50 [.elem [lst t], val p] (lst ((fq t (p.ch, p.ln)).getD [])) := by
 refine dr Tryz.func50 rfl (fun m => (bh _ _)) fun G nx => ?_
 simp only [Tryz.ntmps50, List.length_cons, List.length_nil, Nat.reduceAdd, Nat.reduceSub]
 refine bi fun hlt => ?_
 dsimp only at hlt
 obtain ⟨hl1, hl2, hl3⟩ := ml ht
 refine yS fun _ K1 => ?_
 refine yR ?_
 try dsimp only [St.put]
 refine yB rfl rfl rfl ?_
 refine yA rfl rfl ?_
 refine yN ?_
 dsimp only [St.put]
 refine K1 _ ?_
 refine yS fun _ K2 => ?_
 refine eg 5 ?_
 simp only [dj, bq, Nat.reduceAdd, List.getD_cons_zero, List.getD_cons_succ, List.getD_nil, dw, Nat.reduceBEq, cond_true, cond_false]
 refine mi (X := Bool) (fun b => b = !(fq t (p.ch, p.ln)).isSome) (fun b => [(35, .v (.bool b))]) (fun b G' => G') rfl ?_ (fun _ _ _ _ h => .inl h) ?_ ?_
 ·rintro b hI
  exact zL
 ·refine la [(0, none), (1, none), (2, none), (3, none), (4, none), (5, none), (6, none), (7, none), (8, none)] (fun _ => false) (fun i => [0, 1, 2, 3, 5, 6, 7].contains i) 22 [true, true, true, true, true, true, true, true, true, false, false, false, false, false, false, false, false, false, false, false, false, false, false, false, false, false, false, false, false, false, false] (by kernel_rfl) (by kernel_rfl) ?_
  refine xM rfl rfl rfl rfl rfl ?_
  refine ah rfl rfl rfl rfl (iq rfl rfl) ?_
  refine ah rfl rfl rfl rfl (b9 rfl rfl rfl) ?_
  refine ah rfl rfl rfl rfl (b9 rfl rfl rfl) ?_
  try dsimp only [St.put]
  refine aj rfl rfl rfl rfl (a7 rfl rfl) ?_
  refine ah rfl rfl rfl rfl (ck rfl rfl (List.length_map _)) ?_
  refine ah rfl rfl rfl rfl (ip rfl rfl rfl (by omega)) ?_
  refine ah rfl rfl rfl rfl (b9 rfl rfl rfl) ?_
  try dsimp only [St.put]
  refine aj rfl rfl rfl rfl (a7 rfl rfl) ?_
  refine bu ?_
  refine bk [9] (by kernel_rfl) (by simp) ?_
  refine bc ?_ ?_
  ·try dsimp only [St.put]
   refine br rfl rfl rfl (c9 rfl rfl rfl (by decide) (by decide) zR (by decide) ?_)
   refine bk [10] (by kernel_rfl) (by simp) ?_
   refine bc ?_ ?_
   ·try dsimp only [St.put]
    refine br rfl rfl rfl (bd rfl rfl rfl (ng _ _ [p.ch]) ?_)
    refine cq [(11, none), (12, none), (13, none), (14, none), (15, none), (16, none), (17, none), (18, none), (19, none), (20, none), (21, none), (22, none), (23, none), (24, none), (25, none), (26, none)] (fun i => [11, 12, 13, 14, 15, 16, 18, 20, 21, 23, 24, 25].contains i) 4 [true, true, true, true, true, true, true, true, true, true, true, true, true, true, true, true, true, true, true, true, true, true, true, true, true, true, true, false, false, false, false] (by kernel_rfl) ?_
    refine ah rfl rfl rfl rfl (dn rfl rfl) ?_
    refine xM rfl rfl rfl rfl rfl ?_
    refine qk (fun hs => ?_) (fun hs => ?_)
    ·have h8 : inB p.ch 0 ((t.length : Int) - 1) = false := by rw [iz] at hs; simpa using hs
     refine ba rfl rfl rfl ?_
     refine ba rfl rfl rfl ?_
     refine ba rfl rfl rfl ?_
     refine ba rfl rfl rfl ?_
     refine ba rfl rfl rfl ?_
     refine ba rfl rfl rfl ?_
     refine ba rfl rfl rfl ?_
     refine ba rfl rfl rfl ?_
     refine ba rfl rfl rfl ?_
     refine ba rfl rfl rfl ?_
     refine ba rfl rfl rfl ?_
     refine ba rfl rfl rfl ?_
     refine ba rfl rfl rfl ?_
     refine ba rfl rfl rfl ?_
     refine bu ?_
     refine bk [27] (by kernel_rfl) (by simp) ?_
     refine bc ?_ ?_
     ·refine l4 rfl rfl rfl ?_
      refine bk [28] (by kernel_rfl) (by simp) ?_
      refine bc ?_ ?_
      ·refine l4 rfl rfl rfl ?_
       refine cq [(29, none), (30, none)] (fun i => [29, 30].contains i) 0 [true, true, true, true, true, true, true, true, true, true, true, true, true, true, true, true, true, true, true, true, true, true, true, true, true, true, true, true, true, true, true] (by kernel_rfl) ?_
       refine ba rfl rfl rfl ?_
       refine ah rfl rfl rfl rfl (bg rfl rfl (by constructor)) ?_
       refine bu ?_
       dsimp only [St.put]
       refine gk (by kernel_rfl) ?_
       refine ⟨_, ?_, ⟨⟨rfl, rfl⟩, zF, zB, zN, zX⟩⟩
       rw [ya]
       (simp [h8]; done)
      exact bj
     exact bj
    have h8 : inB p.ch 0 ((t.length : Int) - 1) = true := by rw [iz] at hs; simpa using hs
    have hn1' := h8
    simp only [inB_true] at hn1'
    obtain ⟨c, hcx⟩ : ∃ c, t[p.ch.toNat]? = some c := fj (by omega)
    have hnl : ia t p.ch = c.lines.length := by simp [ia, hcx]
    have hll := (hl3 c (gr hcx)).2.1
    have hch : p.ch = ((p.ch.toNat : Nat) : Int) := by omega
    refine xM rfl rfl rfl rfl rfl ?_
    refine ah rfl rfl rfl rfl (iq rfl rfl) ?_
    refine ah rfl rfl rfl rfl (b9 rfl rfl rfl) ?_
    refine ah rfl rfl rfl rfl (b9 rfl rfl rfl) ?_
    try dsimp only [St.put]
    refine aj rfl rfl rfl rfl (a7 rfl rfl) ?_
    refine ah rfl rfl rfl rfl (b9 rfl rfl rfl) ?_
    try dsimp only [St.put]
    refine aj rfl rfl rfl rfl (a7 rfl rfl) ?_
    try dsimp only [St.put]
    refine ah rfl rfl rfl rfl (b7 rfl rfl rfl (by omega) (cm (by assumption)) (Enc.len _)) ?_
    refine ah rfl rfl rfl rfl (b9 rfl rfl rfl) ?_
    try dsimp only [St.put]
    refine aj rfl rfl rfl rfl (a7 rfl rfl) ?_
    refine ah rfl rfl rfl rfl (ck rfl rfl (List.length_map _)) ?_
    refine ah rfl rfl rfl rfl (ip rfl rfl rfl (by omega)) ?_
    refine ah rfl rfl rfl rfl (b9 rfl rfl rfl) ?_
    try dsimp only [St.put]
    refine aj rfl rfl rfl rfl (a7 rfl rfl) ?_
    refine bu ?_
    refine bk [27] (by kernel_rfl) (by simp) ?_
    refine bc ?_ ?_
    ·try dsimp only [St.put]
     refine br rfl rfl rfl (c9 rfl rfl rfl (by decide) (by decide) zR (by decide) ?_)
     refine bk [28] (by kernel_rfl) (by simp) ?_
     refine bc ?_ ?_
     ·try dsimp only [St.put]
      refine br rfl rfl rfl (bd rfl rfl rfl (ng _ _ [p.ln]) ?_)
      refine cq [(29, none), (30, none)] (fun i => [29, 30].contains i) 0 [true, true, true, true, true, true, true, true, true, true, true, true, true, true, true, true, true, true, true, true, true, true, true, true, true, true, true, true, true, true, true] (by kernel_rfl) ?_
      refine ah rfl rfl rfl rfl (dn rfl rfl) ?_
      refine ah rfl rfl rfl rfl (cd rfl rfl (by constructor)) ?_
      refine bu ?_
      dsimp only [St.put]
      refine gk (by kernel_rfl) ?_
      refine ⟨_, ?_, ⟨⟨rfl, rfl⟩, zF, zB, zN, zX⟩⟩
      rw [ya]
      (simp [h8, hnl, iz]; done)
     exact bj
    exact bj
   exact bj
  exact bj
 rintro b hst
 dsimp only at hst ⊢
 refine al rfl (fun hc => ?_) (fun hc => ?_)
 ·have hw : fq t (p.ch, p.ln) = none := by rw [hc] at hst; simpa using hst.symm
  refine yS fun _ K4 => ?_
  refine yR ?_
  refine yA rfl rfl ?_
  refine yN ?_
  dsimp only [St.put]
  refine K4 _ ?_
  refine am ?_
  refine lp rfl (cj (by constructor)) zN zS ?_
  rw [hw]
  exact zW
 have hw0 : (fq t (p.ch, p.ln)).isSome = true := by rw [hc] at hst; simpa using hst.symm
 obtain ⟨l, hw⟩ := Option.isSome_iff_exists.1 hw0
 obtain ⟨k, n, c, hkn, hk, hn⟩ := r8 hw
 have hch : p.ch = ((k : Nat) : Int) := congrArg Prod.fst hkn
 have hln : p.ln = ((n : Nat) : Int) := congrArg Prod.snd hkn
 refine aw ?_
 refine K2 _ ?_
 refine yS fun _ K5 => ?_
 refine gj [(0, none), (1, none), (2, none), (3, none), (4, none), (5, none), (6, none), (7, none), (8, none), (9, none), (10, none), (11, none), (12, none), (13, none), (14, none)] (fun i => [].contains i) (fun i => [].contains i) (fun i => [0, 1, 2, 3, 5, 7, 8, 10, 12, 14].contains i) [] (by kernel_rfl) (by kernel_rfl) ?_
 refine xM rfl rfl rfl rfl rfl ?_
 refine ah rfl rfl rfl rfl (iq rfl rfl) ?_
 refine ah rfl rfl rfl rfl (b9 rfl rfl rfl) ?_
 refine ah rfl rfl rfl rfl (b9 rfl rfl rfl) ?_
 try dsimp only [St.put]
 refine aj rfl rfl rfl rfl (a7 rfl rfl) ?_
 refine ah rfl rfl rfl rfl (b9 rfl rfl rfl) ?_
 try dsimp only [St.put]
 refine aj rfl rfl rfl rfl (a7 rfl rfl) ?_
 try dsimp only [St.put]
 refine ah rfl rfl rfl rfl (b7 rfl rfl rfl (by omega) (cm (by assumption)) (Enc.len _)) ?_
 refine ah rfl rfl rfl rfl (b9 rfl rfl rfl) ?_
 try dsimp only [St.put]
 refine aj rfl rfl rfl rfl (a7 rfl rfl) ?_
 refine ah rfl rfl rfl rfl (b9 rfl rfl rfl) ?_
 try dsimp only [St.put]
 refine aj rfl rfl rfl rfl (a7 rfl rfl) ?_
 try dsimp only [St.put]
 refine ah rfl rfl rfl rfl (b7 rfl rfl rfl (by omega) (cm (by assumption)) (Enc.len _)) ?_
 try dsimp only [St.put]
 refine aj rfl rfl rfl rfl (a7 rfl rfl) ?_
 refine ah rfl rfl rfl rfl (cg rfl (by constructor)) ?_
 refine bu ?_
 dsimp only [St.put]
 refine K5 _ ?_
 refine am ?_
 refine lp rfl (cj (by constructor)) zN zS ?_
 rw [hw]
 exact zW
theorem uhw (t : ai) (p : PlaceD) (ht : ct t = true) : c8 Tryz.prog 78 [.elem [lst t], val p] (.v (.bool (gp t p))) := by
 refine dr Tryz.func78 rfl (fun m => .v) fun G nx => ?_
 simp only [Tryz.ntmps78, List.length_cons, List.length_nil, Nat.reduceAdd, Nat.reduceSub]
 refine bi fun hlt => ?_
 dsimp only at hlt
 have hwl := uds ht (p.ch, p.ln)
 refine yS fun _ K1 => ?_
 refine yR ?_
 try dsimp only [St.put]
 refine yB rfl rfl rfl ?_
 refine yA rfl rfl ?_
 refine yN ?_
 dsimp only [St.put]
 refine K1 _ ?_
 refine yS fun _ K2 => ?_
 refine la [(0, none), (1, none), (5, none), (6, none)] (fun _ => false) (fun i => [0, 5].contains i) 6 [true, true, false, false, false, true, true, false, false, false] (by kernel_rfl) (by kernel_rfl) ?_
 refine xM rfl rfl rfl rfl rfl ?_
 try dsimp only [St.put]
 refine aj rfl rfl rfl rfl (aq rfl rfl (Enc.len _)) ?_
 refine ah rfl rfl rfl rfl (b9 rfl rfl rfl) ?_
 try dsimp only [St.put]
 refine aj rfl rfl rfl rfl (a7 rfl rfl) ?_
 refine bu ?_
 refine bk [2, 7] (by kernel_rfl) (by simp) ?_
 refine bc ?_ ?_
 ·try dsimp only [St.put]
  refine br rfl rfl rfl (bd rfl rfl rfl (vx t p ht) ?_)
  refine cq [(3, none), (4, none)] (fun i => [3, 4].contains i) 3 [true, true, true, true, true, true, true, false, false, false] (by kernel_rfl) ?_
  refine ah rfl rfl rfl rfl (ck rfl rfl (List.length_map _)) ?_
  refine ah rfl rfl rfl rfl (ip rfl rfl rfl (by omega)) ?_
  refine bu ?_
  refine bk [7] (by kernel_rfl) (by simp) ?_
  refine bc ?_ ?_
  ·try dsimp only [St.put]
   refine br rfl rfl rfl (c9 rfl rfl rfl (by decide) (by decide) zR (by decide) ?_)
   refine bk [8] (by kernel_rfl) (by simp) ?_
   refine bc ?_ ?_
   ·try dsimp only [St.put]
    refine br rfl rfl rfl (bd rfl rfl rfl (ng _ _ [p.wd]) ?_)
    refine cq [(9, none)] (fun i => [9].contains i) 0 [true, true, true, true, true, true, true, true, true, true] (by kernel_rfl) ?_
    refine ah rfl rfl rfl rfl (cg rfl (by constructor)) ?_
    refine bu ?_
    dsimp only [St.put]
    refine gk (by kernel_rfl) ?_
    refine K2 _ ?_
    refine am ?_
    refine bf rfl (by constructor) zN zS ?_
    exact vb placeB_len.symm
   exact bj
  exact bj
 refine bc ?_ ?_
 ·try dsimp only [St.put]
  refine br rfl rfl rfl (c9 rfl rfl rfl (by decide) (by decide) zR (by decide) ?_)
  refine bk [2] (by kernel_rfl) (by simp) ?_
  refine bc ?_ ?_
  ·try dsimp only [St.put]
   refine br rfl rfl rfl (bd rfl rfl rfl (vx t p ht) ?_)
   refine cq [(3, none), (4, none)] (fun i => [3, 4].contains i) 2 [true, true, true, true, true, true, true, true, false, false] (by kernel_rfl) ?_
   refine ah rfl rfl rfl rfl (ck rfl rfl (List.length_map _)) ?_
   refine ah rfl rfl rfl rfl (ip rfl rfl rfl (by omega)) ?_
   refine bu ?_
   refine bk [8] (by kernel_rfl) (by simp) ?_
   refine bc ?_ ?_
   ·try dsimp only [St.put]
    refine br rfl rfl rfl (bd rfl rfl rfl (ng _ _ [p.wd]) ?_)
    refine cq [(9, none)] (fun i => [9].contains i) 0 [true, true, true, true, true, true, true, true, true, true] (by kernel_rfl) ?_
    refine ah rfl rfl rfl rfl (cg rfl (by constructor)) ?_
    refine bu ?_
    dsimp only [St.put]
    refine gk (by kernel_rfl) ?_
    refine K2 _ ?_
    refine am ?_
    refine bf rfl (by constructor) zN zS ?_
    exact vb placeB_len.symm
   exact bj
  exact bj
 exact bj
theorem uht (t : ai) (p : PlaceD) : c8 Tryz.prog 49 [b8 t, val p] (.tup [nw t p, .v (.int .i64 (kz t p))]) := by
 refine dr Tryz.func49 rfl (fun m => .tup (ar (ugb _ _ _) (ar .v bl))) fun G nx => ?_
 simp only [Tryz.ntmps49, List.length_cons, List.length_nil, Nat.reduceAdd, Nat.reduceSub]
 refine bi fun hlt => ?_
 dsimp only at hlt
 refine yS fun _ K1 => ?_
 refine yR ?_
 try dsimp only [St.put]
 refine yB rfl rfl rfl ?_
 try dsimp only [St.put]
 refine yB rfl rfl rfl ?_
 refine yA rfl rfl ?_
 refine yA rfl rfl ?_
 refine yN ?_
 dsimp only [St.put]
 refine K1 _ ?_
 refine yS fun _ K2 => ?_
 refine yR ?_
 try dsimp only [St.put]
 refine af rfl (aq rfl rfl rfl) ?_
 try dsimp only [St.put]
 refine ae rfl (bd rfl rfl rfl (uhu t) ?_)
 refine yM rfl rfl ?_
 refine yX rfl rfl rfl rfl ?_
 refine yX rfl rfl rfl rfl ?_
 refine yA rfl rfl ?_
 refine yA rfl rfl ?_
 refine yN ?_
 dsimp only [St.put]
 refine K2 _ ?_
 refine yS fun _ K3 => ?_
 refine yS fun _ K4 => ?_
 refine yR ?_
 refine yM rfl rfl ?_
 refine aa rfl (dt rfl rfl rfl) ?_
 refine yN ?_
 dsimp only [St.put]
 refine K4 _ ?_
 refine al rfl (fun hc => ?_) (fun hc => ?_)
 ·have htx : ct t = false := by
   cases h : ct t
   ·rfl
   simp [g5, h] at hc
  refine yS fun _ K5 => ?_
  refine yR ?_
  refine yM rfl rfl ?_
  refine yA rfl rfl ?_
  refine yA rfl rfl ?_
  refine yN ?_
  dsimp only [St.put]
  refine K5 _ ?_
  refine am ?_
  refine je rfl (by constructor) (by constructor) zN zS ?_ ?_
  ·simp [nw, htx]
  exact vi (by simp [kz, g5, htx])
 have htx : ct t = true := by
  cases h : ct t
  ·simp [g5, h] at hc
  rfl
 rw [show oo t = .elem [lst t] by simp [oo, htx]]
 refine aw ?_
 refine K3 _ ?_
 refine yS fun _ K6 => ?_
 refine yS fun _ K7 => ?_
 refine yR ?_
 refine yM rfl rfl ?_
 refine yE rfl rfl rfl ?_
 try dsimp only [St.put]
 refine ae rfl (bd rfl rfl rfl (uhw t p htx) ?_)
 refine aa rfl (dn rfl rfl) ?_
 refine yN ?_
 dsimp only [St.put]
 refine K7 _ ?_
 refine al rfl (fun hc => ?_) (fun hc => ?_)
 ·have h1 : gp t p = false := by simpa using hc
  refine yS fun _ K8 => ?_
  refine yR ?_
  refine yA rfl rfl ?_
  refine yA rfl rfl ?_
  refine yN ?_
  dsimp only [St.put]
  refine K8 _ ?_
  refine am ?_
  refine je rfl (by constructor) (by constructor) zN zS ?_ ?_
  ·simp [nw, h1]
  exact vi (by simp [kz, htx, h1])
 have h1 : gp t p = true := by simpa using hc
 refine aw ?_
 refine K6 _ ?_
 refine yS fun _ K9 => ?_
 refine yR ?_
 refine yM rfl rfl ?_
 refine yA rfl rfl ?_
 refine yA rfl rfl ?_
 refine yN ?_
 dsimp only [St.put]
 refine K9 _ ?_
 refine am ?_
 refine je rfl (by constructor) (by constructor) zN zS ?_ ?_
 ·simp [nw, htx, h1]
 exact vi (by simp [kz, htx, h1])
theorem uax (t : ai) (p : PlaceD) : c8 Tryz.prog 17 [b8 t, val p] (.tup [.v (.string (xp t p)), .v (.int .i64 (kz t p))]) := by
 refine dr Tryz.func17 rfl (fun m => .tup (ar .v (ar .v bl))) fun G nx => ?_
 simp only [Tryz.ntmps17, List.length_cons, List.length_nil, Nat.reduceAdd, Nat.reduceSub]
 refine bi fun hlt => ?_
 dsimp only at hlt
 refine yS fun _ K1 => ?_
 refine yR ?_
 try dsimp only [St.put]
 refine yB rfl rfl rfl ?_
 try dsimp only [St.put]
 refine yB rfl rfl rfl ?_
 refine yA rfl rfl ?_
 refine yA rfl rfl ?_
 refine yN ?_
 dsimp only [St.put]
 refine K1 _ ?_
 refine yS fun _ K2 => ?_
 refine yR ?_
 try dsimp only [St.put]
 refine af rfl (aq rfl rfl rfl) ?_
 refine yE rfl rfl rfl ?_
 try dsimp only [St.put]
 refine ae rfl (bd rfl rfl rfl (uht t p) ?_)
 refine yM rfl rfl ?_
 refine yX rfl rfl rfl rfl ?_
 refine yX rfl rfl rfl rfl ?_
 refine yA rfl rfl ?_
 refine yA rfl rfl ?_
 refine yN ?_
 dsimp only [St.put]
 refine K2 _ ?_
 refine yS fun _ K3 => ?_
 refine yS fun _ K4 => ?_
 refine yR ?_
 refine yM rfl rfl ?_
 refine aa rfl (dt rfl rfl rfl) ?_
 refine yN ?_
 dsimp only [St.put]
 refine K4 _ ?_
 refine al rfl (fun hc => ?_) (fun hc => ?_)
 ·have h0 : ¬ kz t p = 0 := ny hc
  have h1 : (ct t && gp t p) = false := by
   cases h : ct t <;> cases h' : gp t p <;> simp [kz, h, h'] at h0 ⊢
  refine yS fun _ K5 => ?_
  refine yR ?_
  refine yM rfl rfl ?_
  refine yA rfl rfl ?_
  refine yA rfl rfl ?_
  refine yN ?_
  dsimp only [St.put]
  refine K5 _ ?_
  refine am ?_
  refine je rfl (by constructor) (by constructor) zN zS ?_ ?_
  ·exact vs (by simp [xp, h1])
  rfl
 have h0 : kz t p = 0 := li hc
 have h1 : ct t = true ∧ gp t p = true := by
  cases h : ct t <;> cases h' : gp t p <;> simp [kz, h, h'] at h0 ⊢
 obtain ⟨l, hw, hw1, hw2⟩ := placeB_true.1 h1.2
 obtain ⟨s, hs⟩ : ∃ s, l[p.wd.toNat]? = some s := fj (by omega)
 have hwd : p.wd = ((p.wd.toNat : Nat) : Int) := by omega
 have hs' : ((fq t (p.ch, p.ln)).getD [])[p.wd.toNat]? = some s := by rw [hw]; exact hs
 rw [show nw t p = .elem [lst t] by simp [nw, h1]]
 refine aw ?_
 refine K3 _ ?_
 refine yS fun _ K6 => ?_
 refine gj [(0, none), (1, none), (3, none), (4, none), (2, none), (5, none), (6, none), (7, none), (8, none)] (fun i => [6].contains i) (fun i => [2, 6].contains i) (fun i => [0, 3, 5, 7, 8].contains i) [] (by kernel_rfl) (by kernel_rfl) ?_
 refine xM rfl rfl rfl rfl rfl ?_
 try dsimp only [St.put]
 refine aj rfl rfl rfl rfl (aq rfl rfl (Enc.len _)) ?_
 refine ah rfl rfl rfl rfl (b9 rfl rfl rfl) ?_
 try dsimp only [St.put]
 refine aj rfl rfl rfl rfl (a7 rfl rfl) ?_
 refine il ?_
 try dsimp only [St.put]
 refine jl rfl rfl rfl (bd rfl rfl rfl (vx t p h1.1) ⟨zD, ?_⟩)
 try dsimp only [St.put]
 refine jk rfl rfl rfl rfl (b7 (k := p.wd.toNat) rfl rfl rfl (by exact hwd) (cm hs') (Enc.len _)) ?_
 try dsimp only [St.put]
 refine gn rfl rfl rfl rfl (SStep.e' (a7 (D := fun _ => True) rfl rfl) ?_)
 refine jk rfl rfl rfl rfl (cg rfl (by constructor)) ?_
 refine jk rfl rfl rfl rfl (cg rfl (by constructor)) ?_
 refine ij ?_
 dsimp only [St.put]
 refine K6 _ ?_
 refine am ?_
 refine je rfl (by constructor) (by constructor) zN zS ?_ ?_
 ·exact vs (by simp [xp, h1, hw, hs])
 exact vi h0.symm
/-! ### Books -/
theorem pd (t : ai) (e : av) (n m V : Nat) (f : L2 → Option L2) (p : PlaceD) (hp : -100000 ≤ p.wd ∧ p.wd ≤ 100000) (G : Nat → Option GObj) (nx : Nat) (hn : n < nx) (hm : m < nx) (hG : G n = some (bo Tryz.prog 115 V (az f))) :
  PC Tryz.prog 46 [.elem (gi t e n m), val p] G nx fun r' G' nx' => r' = .tup [val (rfV f p), .v (.bool (f (p.ch, p.ln)).isSome)] ∧ G' = G ∧ nx' = nx := by
 refine l8 (G) (nx) Tryz.func46 rfl (.tup (ar (dq _ _) (ar .v bl))) zN (fun hlt => zH) ?_
 simp only [Tryz.ntmps46, List.length_cons, List.length_nil, Nat.reduceAdd, Nat.reduceSub]
 refine bi fun hlt => ?_
 dsimp only at hlt
 refine yS fun _ K1 => ?_
 refine yR ?_
 try dsimp only [St.put]
 refine yB rfl rfl rfl ?_
 try dsimp only [St.put]
 refine ae rfl (bp rfl ?_)
 refine yA rfl rfl ?_
 refine yN ?_
 dsimp only [St.put]
 refine K1 _ ?_
 refine yS fun _ K2 => ?_
 obtain ⟨v1, hv1⟩ : ∃ v : L2, (az f (p.ch, p.ln)).getD (iw (.agg #[.int .i64 0, .int .i64 0])) = .agg [.v (.int .i64 v.1), .v (.int .i64 v.2)] := n8 _ _
 obtain ⟨b1, hb1⟩ : ∃ b, (az f (p.ch, p.ln)).isSome = b := ⟨_, rfl⟩
 have hb2 : (f (p.ch, p.ln)).isSome = b1 := by rw [← hb1]; simp [az]
 refine gj [(0, none), (1, none), (2, none), (3, none), (4, none), (5, none), (6, none), (7, none), (8, none), (9, none), (10, none), (11, none), (12, none), (13, none), (14, none), (15, none)] (fun i => [14].contains i) (fun i => [13, 14].contains i) (fun i => [0, 1, 2, 4, 6, 8, 10, 11, 12, 15].contains i) [n] (by kernel_rfl) (by kernel_rfl) ?_
 refine xM rfl rfl rfl rfl rfl ?_
 refine ah rfl rfl rfl rfl (iq rfl rfl) ?_
 refine ah rfl rfl rfl rfl (b9 rfl rfl rfl) ?_
 try dsimp only [St.put]
 refine aj rfl rfl rfl rfl (a7 rfl rfl) ?_
 refine ah rfl rfl rfl rfl (b9 rfl rfl rfl) ?_
 try dsimp only [St.put]
 refine aj rfl rfl rfl rfl (a7 rfl rfl) ?_
 refine ah rfl rfl rfl rfl (b9 rfl rfl rfl) ?_
 try dsimp only [St.put]
 refine aj rfl rfl rfl rfl (a7 rfl rfl) ?_
 refine ah rfl rfl rfl rfl (ir rfl rfl) ?_
 try dsimp only [St.put]
 refine aj rfl rfl rfl rfl (nt ((p.ch, p.ln) : L2) rfl rfl zG (by simp) rfl hv1 hb1) ?_
 refine xM rfl rfl rfl rfl rfl ?_
 refine ah rfl rfl rfl rfl (c7 rfl rfl rfl) ?_
 refine ah rfl rfl rfl rfl (c7 rfl rfl rfl) ?_
 refine il ?_
 try dsimp only [St.put]
 refine jl rfl rfl rfl (bp rfl ⟨zD, ?_⟩)
 try dsimp only [St.put]
 refine gn rfl rfl rfl rfl (ay rfl rfl rfl zG rfl rfl (by rfl) ?_)
 refine jk rfl rfl rfl rfl (cg rfl (by constructor)) ?_
 refine ij ?_
 dsimp only [St.put]
 refine K2 _ ?_
 refine yS fun _ K3 => ?_
 refine yS fun _ K4 => ?_
 refine yR ?_
 refine yM rfl rfl ?_
 refine aa rfl (dn rfl rfl) ?_
 refine yN ?_
 dsimp only [St.put]
 refine K4 _ ?_
 refine al rfl (fun hc => ?_) (fun hc => ?_)
 ·have hb0 : b1 = false := by simpa using hc
  have hf : f (p.ch, p.ln) = none := by rw [hb0] at hb2; simpa using hb2
  refine yS fun _ K5 => ?_
  refine yR ?_
  refine aa rfl (du rfl rfl) ?_
  try dsimp only [St.put]
  refine ae rfl (ay rfl rfl rfl zG rfl rfl (by rfl) ?_)
  refine yA rfl rfl ?_
  refine yN ?_
  dsimp only [St.put]
  refine K5 _ ?_
  refine am ?_
  refine dv rfl (et rfl zG (by rfl) (by first | exact List.cons_ne_nil _ _ | (simp; done) | (simp [putAt]; done)) rfl) (cj (by constructor)) zN zS ?_ ?_
  ·rw [show rfV f p = ⟨0, 0, 0⟩ by simp [rfV, hf]]
   exact zW
  rw [hf]; exact Wk.refl _
 have hb0 : b1 = true := by simpa using hc
 obtain ⟨v, hf⟩ : ∃ v, f (p.ch, p.ln) = some v := Option.isSome_iff_exists.1 (hb2.trans hb0)
 have hvv : v1 = v := by
  rw [ro hf] at hv1
  simp only [C.agg.injEq, List.cons.injEq, C.v.injEq, Value.int.injEq, true_and, and_true] at hv1
  exact (Prod.ext hv1.1 hv1.2).symm
 subst hvv
 refine aw ?_
 refine K3 _ ?_
 refine yS fun _ K6 => ?_
 refine yR ?_
 try dsimp only [St.put]
 refine aa rfl (uad (k := 0) rfl rfl rfl (by first | exact rfl | omega) (by first | decide | omega)) ?_
 try dsimp only [St.put]
 refine af rfl (dd rfl rfl zG trivial (by first | rfl | assumption)) ?_
 try dsimp only [St.put]
 refine aa rfl (uad (k := 1) rfl rfl rfl (by first | exact rfl | omega) (by first | decide | omega)) ?_
 try dsimp only [St.put]
 refine af rfl (dd rfl rfl zG trivial (by first | rfl | assumption)) ?_
 refine yF rfl rfl rfl rfl ?_
 refine yL rfl rfl rfl ?_
 refine aa rfl (bw rfl rfl rfl (by omega)) ?_
 refine aa rfl (du rfl rfl) ?_
 try dsimp only [St.put]
 refine ae rfl (ay rfl rfl rfl zG rfl rfl (by rfl) ?_)
 refine yA rfl rfl ?_
 refine yN ?_
 dsimp only [St.put]
 refine K6 _ ?_
 refine am ?_
 refine dv rfl (et rfl zG (by rfl) (by first | exact List.cons_ne_nil _ _ | (simp; done) | (simp [putAt]; done)) rfl) (cj (by constructor)) zN zS ?_ ?_
 ·rw [show rfV f p = ⟨v1.1, v1.2, p.wd + 1⟩ by simp [rfV, hf]]
  exact zW
 rw [hf]; exact Wk.refl _
theorem rp (t : ai) (e : av) (n m V : Nat) (b : L2 → Option L2) (r : dm) (ht : ct t = true) (hb : ∀ q p, b q = some p → ∃ l, fq t p = some l) (hr : gx r = true) (G : Nat → Option GObj) (nx : Nat) (hn : n < nx) (hm : m < nx) (hG : G m = some (bo Tryz.prog 115 V (az b))) :
  PC Tryz.prog 48 [.elem (gi t e n m), val r] G nx fun r' G' nx' => r' = .tup [val ((ldO t b r).getD ⟨0, 0, 0⟩), .v (.bool (ldO t b r).isSome)] ∧ G' = G ∧ nx' = nx := by
 refine l8 (G) (nx) Tryz.func48 rfl (.tup (ar (dq _ _) (ar .v bl))) zN (fun hlt => zH) ?_
 simp only [Tryz.ntmps48, List.length_cons, List.length_nil, Nat.reduceAdd, Nat.reduceSub]
 refine bi fun hlt => ?_
 dsimp only at hlt
 have hr' := hr
 simp only [gx, Bool.and_eq_true, inB_true] at hr'
 refine yS fun _ K1 => ?_
 refine yR ?_
 try dsimp only [St.put]
 refine yB rfl rfl rfl ?_
 try dsimp only [St.put]
 refine ae rfl (bp rfl ?_)
 refine yA rfl rfl ?_
 refine yN ?_
 dsimp only [St.put]
 refine K1 _ ?_
 refine yS fun _ K2 => ?_
 obtain ⟨v1, hv1⟩ : ∃ v : L2, (az b (r.ch, r.ln)).getD (iw (.agg #[.int .i64 0, .int .i64 0])) = .agg [.v (.int .i64 v.1), .v (.int .i64 v.2)] := n8 _ _
 obtain ⟨b1, hb1⟩ : ∃ x, (az b (r.ch, r.ln)).isSome = x := ⟨_, rfl⟩
 have hb2 : (b (r.ch, r.ln)).isSome = b1 := by rw [← hb1]; simp [az]
 refine gj [(0, none), (1, none), (2, none), (3, none), (4, none), (5, none), (6, none), (7, none), (8, none), (9, none), (10, none), (11, none), (12, none), (13, none), (14, none), (15, none)] (fun i => [14].contains i) (fun i => [13, 14].contains i) (fun i => [0, 1, 2, 4, 6, 8, 10, 11, 12, 15].contains i) [m] (by kernel_rfl) (by kernel_rfl) ?_
 refine xM rfl rfl rfl rfl rfl ?_
 refine ah rfl rfl rfl rfl (iq rfl rfl) ?_
 refine ah rfl rfl rfl rfl (b9 rfl rfl rfl) ?_
 try dsimp only [St.put]
 refine aj rfl rfl rfl rfl (a7 rfl rfl) ?_
 refine ah rfl rfl rfl rfl (b9 rfl rfl rfl) ?_
 try dsimp only [St.put]
 refine aj rfl rfl rfl rfl (a7 rfl rfl) ?_
 refine ah rfl rfl rfl rfl (b9 rfl rfl rfl) ?_
 try dsimp only [St.put]
 refine aj rfl rfl rfl rfl (a7 rfl rfl) ?_
 refine ah rfl rfl rfl rfl (ir rfl rfl) ?_
 try dsimp only [St.put]
 refine aj rfl rfl rfl rfl (nt ((r.ch, r.ln) : L2) rfl rfl zG (by simp) rfl hv1 hb1) ?_
 refine xM rfl rfl rfl rfl rfl ?_
 refine ah rfl rfl rfl rfl (c7 rfl rfl rfl) ?_
 refine ah rfl rfl rfl rfl (c7 rfl rfl rfl) ?_
 refine il ?_
 try dsimp only [St.put]
 refine jl rfl rfl rfl (bp rfl ⟨zD, ?_⟩)
 try dsimp only [St.put]
 refine gn rfl rfl rfl rfl (ay rfl rfl rfl zG rfl rfl (by rfl) ?_)
 refine jk rfl rfl rfl rfl (cg rfl (by constructor)) ?_
 refine ij ?_
 dsimp only [St.put]
 refine K2 _ ?_
 refine dg (i := 6) rfl zG (by first | exact List.cons_ne_nil _ _ | (simp; done) | (simp [putAt]; done)) ?_
 dsimp only
 refine yS fun _ K3 => ?_
 refine eg 21 ?_
 simp only [dj, bq, Nat.reduceAdd, List.getD_cons_zero, List.getD_cons_succ, List.getD_nil, dw, Nat.reduceBEq, cond_true, cond_false]
 refine mi (X := Bool) (fun y => y = !(ldO t b r).isSome) (fun y => [(42, .v (.bool y))]) (fun y G' => G') rfl ?_ (fun _ _ _ _ h => .inl h) ?_ ?_
 ·rintro y hI
  exact zL
 ·refine gj [(0, none), (1, none), (2, none), (3, none), (4, none), (5, none), (6, none), (7, none), (8, none), (9, none), (10, none), (11, none), (12, none), (13, none), (14, none), (15, none), (16, none), (17, none), (18, none), (19, none), (20, none), (21, none)] (fun i => [].contains i) (fun i => [].contains i) (fun i => [0, 1, 2, 3, 5, 6, 7, 8, 10, 12, 13, 15, 17, 19, 20, 21].contains i) [] (by kernel_rfl) (by kernel_rfl) ?_
  refine xM rfl rfl rfl rfl rfl ?_
  refine ah rfl rfl rfl rfl (dn rfl rfl) ?_
  refine xM rfl rfl rfl rfl rfl ?_
  refine qk (fun hs => ?_) (fun hs => ?_)
  ·have hf : b (r.ch, r.ln) = none := by
    have : b1 = false := by simpa using hs
    rw [this] at hb2; simpa using hb2
   refine ba rfl rfl rfl ?_
   refine ba rfl rfl rfl ?_
   refine ba rfl rfl rfl ?_
   refine ba rfl rfl rfl ?_
   refine ba rfl rfl rfl ?_
   refine ba rfl rfl rfl ?_
   refine ba rfl rfl rfl ?_
   refine ba rfl rfl rfl ?_
   refine ba rfl rfl rfl ?_
   refine ba rfl rfl rfl ?_
   refine ba rfl rfl rfl ?_
   refine ba rfl rfl rfl ?_
   refine ba rfl rfl rfl ?_
   refine ba rfl rfl rfl ?_
   refine ba rfl rfl rfl ?_
   refine ba rfl rfl rfl ?_
   refine ba rfl rfl rfl ?_
   refine ba rfl rfl rfl ?_
   refine ah rfl rfl rfl rfl (bg rfl rfl (by constructor)) ?_
   refine bu ?_
   dsimp only [St.put]
   refine ⟨_, ?_, ⟨⟨rfl, rfl⟩, zF, zB, zN, zX⟩⟩
   (simp [ldO, hf]; done)
  have hb0 : b1 = true := by simpa using hs
  obtain ⟨v, hf⟩ : ∃ v, b (r.ch, r.ln) = some v := Option.isSome_iff_exists.1 (hb2.trans hb0)
  have hvv : v1 = v := by
   rw [ro hf] at hv1
   simp only [C.agg.injEq, List.cons.injEq, C.v.injEq, Value.int.injEq, true_and, and_true] at hv1
   exact (Prod.ext hv1.1 hv1.2).symm
  subst hvv
  obtain ⟨l, hw⟩ := hb _ _ hf
  obtain ⟨k, i, c, hkn, hk, hi⟩ := r8 hw
  have hwl := od ht hw
  have hch : v1.1 = ((k : Nat) : Int) := congrArg Prod.fst hkn
  have hln : v1.2 = ((i : Nat) : Int) := congrArg Prod.snd hkn
  refine ah rfl rfl rfl rfl (b9 rfl rfl rfl) ?_
  try dsimp only [St.put]
  refine aj rfl rfl rfl rfl (a7 rfl rfl) ?_
  refine xM rfl rfl rfl rfl rfl ?_
  refine ah rfl rfl rfl rfl (iq rfl rfl) ?_
  refine ah rfl rfl rfl rfl (b9 rfl rfl rfl) ?_
  refine ah rfl rfl rfl rfl (b9 rfl rfl rfl) ?_
  try dsimp only [St.put]
  refine aj rfl rfl rfl rfl (a7 rfl rfl) ?_
  try dsimp only [St.put]
  refine ah rfl rfl rfl rfl (fb (k := 0) rfl rfl rfl (by first | exact rfl | omega) (by first | decide | omega) rfl) ?_
  try dsimp only [St.put]
  refine aj rfl rfl rfl rfl (a7 rfl rfl) ?_
  try dsimp only [St.put]
  refine ah rfl rfl rfl rfl (b7 rfl rfl rfl (by omega) (cm (by assumption)) (Enc.len _)) ?_
  refine ah rfl rfl rfl rfl (b9 rfl rfl rfl) ?_
  try dsimp only [St.put]
  refine aj rfl rfl rfl rfl (a7 rfl rfl) ?_
  try dsimp only [St.put]
  refine ah rfl rfl rfl rfl (fb (k := 1) rfl rfl rfl (by first | exact rfl | omega) (by first | decide | omega) rfl) ?_
  try dsimp only [St.put]
  refine aj rfl rfl rfl rfl (a7 rfl rfl) ?_
  try dsimp only [St.put]
  refine ah rfl rfl rfl rfl (b7 rfl rfl rfl (by omega) (cm (by assumption)) (Enc.len _)) ?_
  try dsimp only [St.put]
  refine aj rfl rfl rfl rfl (a7 rfl rfl) ?_
  refine ah rfl rfl rfl rfl (ck rfl rfl (List.length_map _)) ?_
  refine ah rfl rfl rfl rfl (gz rfl rfl rfl) ?_
  refine ah rfl rfl rfl rfl (cd rfl rfl (by constructor)) ?_
  refine bu ?_
  dsimp only [St.put]
  refine ⟨_, ?_, ⟨⟨rfl, rfl⟩, zF, zB, zN, zX⟩⟩
  (rw [show ldO t b r = bif decide ((((fq t v1).getD []).length : Int) < r.wd) then none else some ⟨v1.1, v1.2, r.wd - 1⟩ by simp [ldO, hf], hw]; simp only [Option.getD_some]; cases hd : decide ((l.length : Int) < r.wd) <;> simp_all)
 rintro y hst
 dsimp only at hst ⊢
 refine al rfl (fun hc => ?_) (fun hc => ?_)
 ·have hl0 : ldO t b r = none := by rw [hc] at hst; simpa using hst.symm
  refine yS fun _ K5 => ?_
  refine yR ?_
  refine aa rfl (du rfl rfl) ?_
  try dsimp only [St.put]
  refine ae rfl (ay rfl rfl rfl zG rfl rfl (by rfl) ?_)
  refine yA rfl rfl ?_
  refine yN ?_
  dsimp only [St.put]
  refine K5 _ ?_
  refine am ?_
  refine dv rfl (et rfl zG (by rfl) (by first | exact List.cons_ne_nil _ _ | (simp; done) | (simp [putAt]; done)) rfl) (cj (by constructor)) zN zS ?_ ?_
  ·rw [hl0]
   exact zW
  rw [hl0]; exact Wk.refl _
 have hl1 : (ldO t b r).isSome = true := by rw [hc] at hst; simpa using hst.symm
 obtain ⟨v, hf, hlv⟩ : ∃ v, b (r.ch, r.ln) = some v ∧ ldO t b r = some ⟨v.1, v.2, r.wd - 1⟩ := by
  obtain ⟨q, hq⟩ := Option.isSome_iff_exists.1 hl1
  cases hf : b (r.ch, r.ln) with
  | none => simp [ldO, hf] at hq
  | some v =>
   refine ⟨v, rfl, ?_⟩
   simp only [ldO, hf] at hq ⊢
   cases hd : decide ((((fq t v).getD []).length : Int) < r.wd) with
   | true => rw [hd] at hq; cases hq
   | false => rfl
 have hvv : v1 = v := by
  rw [ro hf] at hv1
  simp only [C.agg.injEq, List.cons.injEq, C.v.injEq, Value.int.injEq, true_and, and_true] at hv1
  exact (Prod.ext hv1.1 hv1.2).symm
 subst hvv
 refine aw ?_
 refine K3 _ ?_
 refine yS fun _ K6 => ?_
 refine yR ?_
 try dsimp only [St.put]
 refine aa rfl (fb (k := 0) rfl rfl rfl (by first | exact rfl | omega) (by first | decide | omega) rfl) ?_
 refine yL rfl rfl rfl ?_
 try dsimp only [St.put]
 refine aa rfl (fb (k := 1) rfl rfl rfl (by first | exact rfl | omega) (by first | decide | omega) rfl) ?_
 refine yL rfl rfl rfl ?_
 refine yF rfl rfl rfl rfl ?_
 refine yL rfl rfl rfl ?_
 refine aa rfl (ip rfl rfl rfl (by omega)) ?_
 refine aa rfl (du rfl rfl) ?_
 try dsimp only [St.put]
 refine ae rfl (ay rfl rfl rfl zG rfl rfl (by rfl) ?_)
 refine yA rfl rfl ?_
 refine yN ?_
 dsimp only [St.put]
 refine K6 _ ?_
 refine am ?_
 refine dv rfl (et rfl zG (by rfl) (by first | exact List.cons_ne_nil _ _ | (simp; done) | (simp [putAt]; done)) rfl) (cj (by constructor)) zN zS ?_ ?_
 ·rw [hlv]
  exact zW
 rw [hlv]; exact Wk.refl _
theorem ucn (t : ai) (e : av) (p : PlaceD) (hl : e.ss.length ≤ 20) (h : bz t e = 0) (hp : gp t p = true) (G : Nat → Option GObj) (nx : Nat) (hF : G 0 = some cv) :
  PC Tryz.prog 45 [b8 t, val e, val p] G nx fun r G' nx' => ∃ y : Nat × Nat, r = .tup [.elem (gi t e (nx + 1 + 1) (nx + 1 + 1 + 1)), .v (.int .i64 0)] ∧ G' = (ak (ak G (nx + 1 + 1) (bo Tryz.prog 115 y.1 (az ((ax e.ss))))) (nx + 1 + 1 + 1) (bo Tryz.prog 115 y.2 (az ((cn e.ss))))) ∧ nx' = nx + 1 + 1 + 1 + 1 := by
 refine pu (fun (y : Nat × Nat) => (ak (ak G (nx + 1 + 1) (bo Tryz.prog 115 y.1 (az ((ax e.ss))))) (nx + 1 + 1 + 1) (bo Tryz.prog 115 y.2 (az ((cn e.ss)))))) (nx + 1 + 1 + 1 + 1) Tryz.func45 rfl (.tup (ar ((.elem (ar .v (ar (bh _ _) (ar (bh _ _) (ar (.map (show nx + 1 + 1 < nx + 1 + 1 + 1 + 1 by omega)) (ar (.map (show nx + 1 + 1 + 1 < nx + 1 + 1 + 1 + 1 by omega)) bl))))))) (ar .v bl))) zN (fun hlt y => (by (repeat' (refine gt ?_ (by (try dsimp only); omega) ?_)); all_goals (first | exact ie zS | (repeat' (first | exact trivial | refine ⟨?_, ?_⟩ | exact .v | exact .any | refine .elem ?_ | exact bh _ _ | exact e9 _ _ | exact dq _ _ | exact ff _ (by (try dsimp only); omega) | exact .box (by (try dsimp only); omega) | exact ed | exact bl | exact gg (f9 _ _) | refine fa ?_ ?_ | exact .arr (by (try dsimp only); omega) | exact .own (by (try dsimp only); omega) | exact .map (by (try dsimp only); omega) | exact ez _ | refine ar ?_ ?_ | exact bh _ _))))) ?_
 simp only [Tryz.ntmps45, List.length_cons, List.length_nil, Nat.reduceAdd, Nat.reduceSub]
 refine bi fun hlt => ?_
 dsimp only at hlt
 have hnx := hlt 0 _ hF
 obtain ⟨ht, hl12, he⟩ := kq (lg h).1
 refine yS fun _ K1 => ?_
 refine yR ?_
 try dsimp only [St.put]
 refine yB rfl rfl rfl ?_
 try dsimp only [St.put]
 refine yB rfl rfl rfl ?_
 try dsimp only [St.put]
 refine yB rfl rfl rfl ?_
 refine yA rfl rfl ?_
 refine yA rfl rfl ?_
 refine yN ?_
 dsimp only [St.put]
 refine K1 _ ?_
 refine yS fun _ K2 => ?_
 refine yR ?_
 try dsimp only [St.put]
 refine af rfl (aq rfl rfl rfl) ?_
 refine yE rfl rfl rfl ?_
 try dsimp only [St.put]
 refine ae rfl (c9 rfl rfl rfl (by decide) (by decide) zR (by decide) ?_)
 try dsimp only [St.put]
 refine ae rfl (i0 rfl rfl rfl (pp t e hl h _ _ zG) (fun y => ?_))
 refine yM rfl rfl ?_
 refine yX rfl rfl rfl rfl ?_
 refine yX rfl rfl rfl rfl ?_
 refine yA rfl rfl ?_
 refine yA rfl rfl ?_
 refine yN ?_
 dsimp only [St.put]
 refine K2 _ ?_
 refine yS fun _ K3 => ?_
 refine yS fun _ K4 => ?_
 refine yR ?_
 refine yM rfl rfl ?_
 refine aa rfl (bt (c := false) (dt rfl rfl rfl) (by rfl)) ?_
 refine yN ?_
 dsimp only [St.put]
 refine K4 _ ?_
 refine al rfl (fun h => by cases h) (fun _ => ?_)
 refine aw ?_
 refine K3 _ ?_
 refine yS fun _ K5 => ?_
 refine yS fun _ K6 => ?_
 refine yR ?_
 try dsimp only [St.put]
 refine af rfl (aq rfl rfl rfl) ?_
 refine yE rfl rfl rfl ?_
 try dsimp only [St.put]
 refine ae rfl (bd rfl rfl rfl (uax t p) ?_)
 refine yM rfl rfl ?_
 refine yX rfl rfl rfl rfl ?_
 refine yX rfl rfl rfl rfl ?_
 refine yA rfl rfl ?_
 refine yA rfl rfl ?_
 refine yN ?_
 dsimp only [St.put]
 rw [show kz t p = 0 by simp [kz, ht, hp]]
 refine K6 _ ?_
 refine yS fun _ K7 => ?_
 refine yR ?_
 refine yM rfl rfl ?_
 refine aa rfl (bt (c := false) (dt rfl rfl rfl) (by rfl)) ?_
 refine yN ?_
 dsimp only [St.put]
 refine K7 _ ?_
 refine al rfl (fun h => by cases h) (fun _ => ?_)
 refine aw ?_
 refine K5 _ ?_
 refine yS fun _ K8 => ?_
 refine yR ?_
 refine yM rfl rfl ?_
 try dsimp only [St.put]
 refine aa rfl (b7 (k := 0) rfl rfl rfl (by first | rfl | omega) rfl rfl) ?_
 refine yL rfl rfl rfl ?_
 refine yA rfl rfl ?_
 refine yA rfl rfl ?_
 refine yN ?_
 dsimp only [St.put]
 refine K8 _ ?_
 refine am ?_
 refine ⟨y, ?_⟩
 refine dv rfl (cj (by constructor)) (cj (by constructor)) zN zX ?_ ?_
 ·exact zW
 exact zW
theorem ucp (t : ai) (e : av) (p : PlaceD) (hl : e.ss.length ≤ 20) (h : bz t e ≠ 0) :
  da cv Tryz.prog 45 [b8 t, val e, val p] (.tup [.v (.pointer none), .v (.int .i64 (bz t e))]) := by
 refine fy Tryz.func45 rfl (fun m => .tup (ar .v (ar .v bl))) fun G nx hF => ?_
 simp only [Tryz.ntmps45, List.length_cons, List.length_nil, Nat.reduceAdd, Nat.reduceSub]
 refine bi fun hlt => ?_
 dsimp only at hlt
 have hnx := hlt 0 _ hF
 refine yS fun _ K1 => ?_
 refine yR ?_
 try dsimp only [St.put]
 refine yB rfl rfl rfl ?_
 try dsimp only [St.put]
 refine yB rfl rfl rfl ?_
 try dsimp only [St.put]
 refine yB rfl rfl rfl ?_
 refine yA rfl rfl ?_
 refine yA rfl rfl ?_
 refine yN ?_
 dsimp only [St.put]
 refine K1 _ ?_
 refine yS fun _ K2 => ?_
 refine yR ?_
 try dsimp only [St.put]
 refine af rfl (aq rfl rfl rfl) ?_
 refine yE rfl rfl rfl ?_
 try dsimp only [St.put]
 refine ae rfl (c9 rfl rfl rfl (by decide) (by decide) zR (by decide) ?_)
 try dsimp only [St.put]
 refine ae rfl (eb rfl rfl rfl (qr t e hl h) zG ?_)
 refine yM rfl rfl ?_
 refine yX rfl rfl rfl rfl ?_
 refine yX rfl rfl rfl rfl ?_
 refine yA rfl rfl ?_
 refine yA rfl rfl ?_
 refine yN ?_
 dsimp only [St.put]
 refine K2 _ ?_
 refine yS fun _ K3 => ?_
 refine yS fun _ K4 => ?_
 refine yR ?_
 refine yM rfl rfl ?_
 refine aa rfl (bt (c := true) (dt rfl rfl rfl) (kh h)) ?_
 refine yN ?_
 dsimp only [St.put]
 refine K4 _ ?_
 refine al rfl (fun _ => ?_) (fun h => by cases h)
 refine yS fun _ K5 => ?_
 refine yR ?_
 refine yM rfl rfl ?_
 refine yA rfl rfl ?_
 refine yA rfl rfl ?_
 refine yN ?_
 dsimp only [St.put]
 refine K5 _ ?_
 refine am ?_
 refine je rfl (by constructor) (by constructor) zN zS ?_ ?_
 ·rfl
 rfl
theorem uco (t : ai) (e : av) (p : PlaceD) (hl : e.ss.length ≤ 20) (h : bz t e = 0) (hp : gp t p = false) :
  da cv Tryz.prog 45 [b8 t, val e, val p] (.tup [.v (.pointer none), .v (.int .i64 12)]) := by
 refine fy Tryz.func45 rfl (fun m => .tup (ar .v (ar .v bl))) fun G nx hF => ?_
 simp only [Tryz.ntmps45, List.length_cons, List.length_nil, Nat.reduceAdd, Nat.reduceSub]
 refine bi fun hlt => ?_
 dsimp only at hlt
 have hnx := hlt 0 _ hF
 obtain ⟨ht, hl12, he⟩ := kq (lg h).1
 refine yS fun _ K1 => ?_
 refine yR ?_
 try dsimp only [St.put]
 refine yB rfl rfl rfl ?_
 try dsimp only [St.put]
 refine yB rfl rfl rfl ?_
 try dsimp only [St.put]
 refine yB rfl rfl rfl ?_
 refine yA rfl rfl ?_
 refine yA rfl rfl ?_
 refine yN ?_
 dsimp only [St.put]
 refine K1 _ ?_
 refine yS fun _ K2 => ?_
 refine yR ?_
 try dsimp only [St.put]
 refine af rfl (aq rfl rfl rfl) ?_
 refine yE rfl rfl rfl ?_
 try dsimp only [St.put]
 refine ae rfl (c9 rfl rfl rfl (by decide) (by decide) zR (by decide) ?_)
 try dsimp only [St.put]
 refine ae rfl (i0 rfl rfl rfl (pp t e hl h _ _ zG) (fun y => ?_))
 refine yM rfl rfl ?_
 refine yX rfl rfl rfl rfl ?_
 refine yX rfl rfl rfl rfl ?_
 refine yA rfl rfl ?_
 refine yA rfl rfl ?_
 refine yN ?_
 dsimp only [St.put]
 refine K2 _ ?_
 refine yS fun _ K3 => ?_
 refine yS fun _ K4 => ?_
 refine yR ?_
 refine yM rfl rfl ?_
 refine aa rfl (bt (c := false) (dt rfl rfl rfl) (by rfl)) ?_
 refine yN ?_
 dsimp only [St.put]
 refine K4 _ ?_
 refine al rfl (fun h => by cases h) (fun _ => ?_)
 refine aw ?_
 refine K3 _ ?_
 refine yS fun _ K5 => ?_
 refine yS fun _ K6 => ?_
 refine yR ?_
 try dsimp only [St.put]
 refine af rfl (aq rfl rfl rfl) ?_
 refine yE rfl rfl rfl ?_
 try dsimp only [St.put]
 refine ae rfl (bd rfl rfl rfl (uax t p) ?_)
 refine yM rfl rfl ?_
 refine yX rfl rfl rfl rfl ?_
 refine yX rfl rfl rfl rfl ?_
 refine yA rfl rfl ?_
 refine yA rfl rfl ?_
 refine yN ?_
 dsimp only [St.put]
 rw [show kz t p = 12 by simp [kz, ht, hp]]
 refine K6 _ ?_
 refine yS fun _ K7 => ?_
 refine yR ?_
 refine yM rfl rfl ?_
 refine aa rfl (bt (c := true) (dt rfl rfl rfl) (by rfl)) ?_
 refine yN ?_
 dsimp only [St.put]
 refine K7 _ ?_
 refine al rfl (fun _ => ?_) (fun h => by cases h)
 refine yS fun _ K8 => ?_
 refine yR ?_
 refine yM rfl rfl ?_
 refine yA rfl rfl ?_
 refine yA rfl rfl ?_
 refine yN ?_
 dsimp only [St.put]
 refine K8 _ ?_
 refine am ?_
 refine je rfl (by constructor) (by constructor) zN zS ?_ ?_
 ·rfl
 rfl
theorem ulc (t : ai) (e : av) (p : PlaceD) (hl : e.ss.length ≤ 20) (h : bz t e = 0) (hp : gp t p = true) :
  da cv Tryz.prog 15 [b8 t, val e, val p] (.tup [val (ix t e p), .v (.int .i64 (eu t e p))]) := by
 refine fy Tryz.func15 rfl (fun m => .tup (ar (dq _ _) (ar .v bl))) fun G nx hF => ?_
 simp only [Tryz.ntmps15, List.length_cons, List.length_nil, Nat.reduceAdd, Nat.reduceSub]
 refine bi fun hlt => ?_
 dsimp only at hlt
 have hnx := hlt 0 _ hF
 obtain ⟨ht, hl12, he⟩ := kq (lg h).1
 obtain ⟨l, hw, hw1, hw2⟩ := placeB_true.1 hp
 have hwl := od ht hw
 refine yS fun _ K1 => ?_
 refine yR ?_
 try dsimp only [St.put]
 refine yB rfl rfl rfl ?_
 try dsimp only [St.put]
 refine yB rfl rfl rfl ?_
 try dsimp only [St.put]
 refine yB rfl rfl rfl ?_
 try dsimp only [St.put]
 refine ae rfl (bp rfl ?_)
 refine yA rfl rfl ?_
 refine yN ?_
 dsimp only [St.put]
 refine K1 _ ?_
 refine yS fun _ K2 => ?_
 refine yR ?_
 try dsimp only [St.put]
 refine af rfl (aq rfl rfl rfl) ?_
 refine yE rfl rfl rfl ?_
 refine yE rfl rfl rfl ?_
 try dsimp only [St.put]
 refine ae rfl (i0 rfl rfl rfl (ucn t e p hl h hp _ _ zG) (fun y => ?_))
 refine yM rfl rfl ?_
 refine yX rfl rfl rfl rfl ?_
 refine yX rfl rfl rfl rfl ?_
 refine yA rfl rfl ?_
 refine yA rfl rfl ?_
 refine yN ?_
 dsimp only [St.put]
 refine K2 _ ?_
 refine yS fun _ K3 => ?_
 refine yS fun _ K4 => ?_
 refine yR ?_
 refine yM rfl rfl ?_
 refine aa rfl (bt (c := false) (dt rfl rfl rfl) (by rfl)) ?_
 refine yN ?_
 dsimp only [St.put]
 refine K4 _ ?_
 refine al rfl (fun h => by cases h) (fun _ => ?_)
 refine aw ?_
 refine K3 _ ?_
 refine yS fun _ K5 => ?_
 refine yR ?_
 refine yM rfl rfl ?_
 refine yE rfl rfl rfl ?_
 try dsimp only [St.put]
 refine ae rfl (f8 rfl rfl rfl (pd t e _ _ _ (ax e.ss) p (by omega) _ _ (by dsimp only [St.put]; omega) (by dsimp only [St.put]; omega) zG) ?_)
 refine yM rfl rfl ?_
 refine yX rfl rfl rfl rfl ?_
 refine yX rfl rfl rfl rfl ?_
 try dsimp only [St.put]
 refine ae rfl (bp rfl ?_)
 try dsimp only [St.put]
 refine ae rfl (ay rfl rfl rfl zG rfl rfl (by rfl) ?_)
 refine yA rfl rfl ?_
 refine yN ?_
 dsimp only [St.put]
 refine K5 _ ?_
 refine yS fun _ K6 => ?_
 refine yS fun _ K7 => ?_
 refine yR ?_
 refine yM rfl rfl ?_
 refine aa rfl (dn rfl rfl) ?_
 refine yN ?_
 dsimp only [St.put]
 refine K7 _ ?_
 refine al rfl (fun hc => ?_) (fun hc => ?_)
 ·have hf : ax e.ss (p.ch, p.ln) = none := by simpa using hc
  have hE : eu t e p = 6 := by simp [eu, h, hp, hf]
  have hV : ix t e p = ⟨0, 0, 0⟩ := by simp [ix, hE]
  refine yS fun _ K8 => ?_
  refine yR ?_
  refine aa rfl (du rfl rfl) ?_
  try dsimp only [St.put]
  refine ae rfl (ay rfl rfl rfl zG rfl rfl (by rfl) ?_)
  refine yA rfl rfl ?_
  refine yN ?_
  dsimp only [St.put]
  refine K8 _ ?_
  refine am ?_
  refine dv rfl (et rfl zG (by rfl) (by first | exact List.cons_ne_nil _ _ | (simp; done) | (simp [putAt]; done)) rfl) (cj (by constructor)) zN zS ?_ ?_
  ·rw [hV]
   exact zW
  exact Wk.of_eq (vi hE.symm)
 have hf : (ax e.ss (p.ch, p.ln)).isSome = true := by simpa using hc
 have hE : eu t e p = 0 := by simp [eu, h, hp, hf]
 have hV : ix t e p = rfV (ax e.ss) p := by
  obtain ⟨v, hv⟩ := Option.isSome_iff_exists.1 hf
  simp [ix, hE, rfV, hv]
 refine aw ?_
 refine K6 _ ?_
 refine yS fun _ K9 => ?_
 refine yR ?_
 try dsimp only [St.put]
 refine af rfl (dc rfl rfl zG trivial (by rfl)) ?_
 try dsimp only [St.put]
 refine ae rfl (ay rfl rfl rfl zG rfl rfl (by rfl) ?_)
 refine yA rfl rfl ?_
 refine yN ?_
 dsimp only [St.put]
 refine K9 _ ?_
 refine am ?_
 refine dv rfl (et rfl zG (by rfl) (by first | exact List.cons_ne_nil _ _ | (simp; done) | (simp [putAt]; done)) rfl) (cj (by constructor)) zN zS ?_ ?_
 ·rw [hV]
  exact zW
 exact Wk.of_eq (vi hE.symm)
theorem ucm (t : ai) (e : av) (p : PlaceD) (er : Int) (he0 : er ≠ 0) (hcall : da cv Tryz.prog 45 [b8 t, val e, val p] (.tup [.v (.pointer none), .v (.int .i64 er)])) :
  da cv Tryz.prog 15 [b8 t, val e, val p] (.tup [val (⟨0, 0, 0⟩ : dm), .v (.int .i64 er)]) := by
 refine fy Tryz.func15 rfl (fun m => .tup (ar (dq _ _) (ar .v bl))) fun G nx hF => ?_
 simp only [Tryz.ntmps15, List.length_cons, List.length_nil, Nat.reduceAdd, Nat.reduceSub]
 refine bi fun hlt => ?_
 dsimp only at hlt
 have hnx := hlt 0 _ hF
 refine yS fun _ K1 => ?_
 refine yR ?_
 try dsimp only [St.put]
 refine yB rfl rfl rfl ?_
 try dsimp only [St.put]
 refine yB rfl rfl rfl ?_
 try dsimp only [St.put]
 refine yB rfl rfl rfl ?_
 try dsimp only [St.put]
 refine ae rfl (bp rfl ?_)
 refine yA rfl rfl ?_
 refine yN ?_
 dsimp only [St.put]
 refine K1 _ ?_
 refine yS fun _ K2 => ?_
 refine yR ?_
 try dsimp only [St.put]
 refine af rfl (aq rfl rfl rfl) ?_
 refine yE rfl rfl rfl ?_
 refine yE rfl rfl rfl ?_
 try dsimp only [St.put]
 refine ae rfl (eb rfl rfl rfl (hcall) zG ?_)
 refine yM rfl rfl ?_
 refine yX rfl rfl rfl rfl ?_
 refine yX rfl rfl rfl rfl ?_
 refine yA rfl rfl ?_
 refine yA rfl rfl ?_
 refine yN ?_
 dsimp only [St.put]
 refine K2 _ ?_
 refine yS fun _ K3 => ?_
 refine yS fun _ K4 => ?_
 refine yR ?_
 refine yM rfl rfl ?_
 refine aa rfl (bt (c := true) (dt rfl rfl rfl) (kh he0)) ?_
 refine yN ?_
 dsimp only [St.put]
 refine K4 _ ?_
 refine al rfl (fun _ => ?_) (fun h => by cases h)
 refine yS fun _ K5 => ?_
 refine yR ?_
 refine aa rfl (du rfl rfl) ?_
 refine yM rfl rfl ?_
 try dsimp only [St.put]
 refine ae rfl (ay rfl rfl rfl zG rfl rfl (by rfl) ?_)
 refine yA rfl rfl ?_
 refine yN ?_
 dsimp only [St.put]
 refine K5 _ ?_
 refine am ?_
 refine dv rfl (et rfl zG (by rfl) (by first | exact List.cons_ne_nil _ _ | (simp; done) | (simp [putAt]; done)) rfl) (cj (by constructor)) zN zS ?_ ?_
 ·exact zW
 exact zW
theorem t6 (t : ai) (e : av) (p : PlaceD) (hl : e.ss.length ≤ 20) :
  da cv Tryz.prog 15 [b8 t, val e, val p] (.tup [val (ix t e p), .v (.int .i64 (eu t e p))]) := by
 by_cases h : bz t e = 0
 ·cases hp : gp t p with
  | true => exact ulc t e p hl h hp
  | false =>
   have hE : eu t e p = 12 := by simp [eu, h, hp]
   have hV : ix t e p = ⟨0, 0, 0⟩ := by simp [ix, hE]
   rw [hV, hE]
   exact ucm t e p 12 (by decide) (uco t e p hl h hp)
 have hE : eu t e p = bz t e := by simp [eu, h]
 have hV : ix t e p = ⟨0, 0, 0⟩ := by simp [ix, hE, h]
 rw [hV, hE]
 exact ucm t e p _ h (ucp t e p hl h)
end Go.Proofs.YtjjklfgpffgnfaaGreatDoor
