/-
 The contracts of the program's functions of copies: whether one is valid, and its text.
-/
import Derived.Test.YtjjklfgpffgnfabGreatDoorHfRead
import Derived.Test.YtjjklfgpffgnfabGreatDoorGrpG
import Derived.Test.YtjjklfgpffgnfabGreatDoorAbFull
namespace Go.AB
open Go Go.RowKit
open Go.AB.Enc (cells)
open Go.PB (bh af PlaceD ar bp cj)
section
variable {t : af} {c : bp} {k : Nat} {r : ar}
theorem uel (h : inB c.id 0 9999 = false) : jj t c = false := by simp [jj, h]
theorem uek (h : 20 < c.rs.length) : jj t c = false := by
 have : ¬ c.rs.length ≤ 20 := by omega
 simp [jj, this]
theorem rg (hx : c.rs[k]? = some r) (h : j5 t r = false) : jj t c = false := by
 have : rsB t c.rs = false := by
  unfold rsB
  rw [ke hx h]; rfl
 simp [jj, this]
theorem uej (h : im (c.rs.take k) = false) : jj t c = false := by
 have : rsB t c.rs = false := by
  unfold rsB
  rw [ujs h, Bool.and_false]
 simp [jj, this]
theorem uoj (h : se t c.rs = false) : jj t c = false := by simp [jj, h]
theorem copyB_true : jj t c = true ↔ inB c.id 0 9999 = true ∧ c.rs.length ≤ 20 ∧ rsB t c.rs = true ∧ se t c.rs = true := by
 unfold jj
 simp only [Bool.and_eq_true, decide_eq_true_eq, and_assoc]
def lnB (x : bh) : Bool := x.lines.all fun l => inB l.length 1 10
theorem uci {x : bh} : (x.lines.any fun l => !inB l.length 1 10) = !lnB x := by
 unfold lnB
 rw [List.any_eq_not_all_not]
 congr 1
 congr 1
 funext l
 simp
theorem ui3 {rs : List ar} {t : af} (hv : rsB t rs = true) (hl : rs.length ≤ 20) (ch ln : Int) (l : List ByteArray) (hll : l.length ≤ 10) : (n4 rs ch ln l).length ≤ 11 * 21 := by
 unfold n4
 rw [← xc hv]
 exact Nat.le_trans (List.length_filter_le _ _) (Nat.le_trans (t6 _ _ _ _ _) (Nat.mul_le_mul (by omega) (by omega)))
theorem ui4 {rs : List ar} {t : af} (ht : bw t = true) (hv : rsB t rs = true) (hl : rs.length ≤ 20) {j : Nat} {x : bh} (hx : (c7 t rs)[j]? = some x) : ∀ y ∈ x.lines, y.length ≤ 100000 := fun y hy => by
 rw [qe] at hx
 obtain ⟨ch, hc, rfl⟩ := Option.map_eq_some_iff.1 hx
 obtain ⟨m, hm⟩ := List.getElem?_of_mem hy
 unfold g8 at hm
 dsimp only at hm
 rw [List.getElem?_mapIdx] at hm
 obtain ⟨l, hl2, rfl⟩ := Option.map_eq_some_iff.1 hm
 have h1 := ((kh ht).2.2 ch (e8 hc)).2.2 l (e8 hl2)
 have := ui3 hv hl (j : Int) (m : Int) l h1.2
 omega
theorem uju (hx : c.rs[0]? = some r) : im (c.rs.take (0 + 1)) = true := by
 rw [ubh hx]
 simp [im]
theorem ujt {a : ar} (hx : c.rs[k]? = some r) (hk : k ≠ 0) (ha : c.rs[k - 1]? = some a) (ho : im (c.rs.take k) = true) : im (c.rs.take (k + 1)) = ou a r := by
 rw [ubh hx, ho, ha]
 simp [hk]
noncomputable def ji (t : af) (c : bp) : Int := bif bw t then (bif jj t c then 0 else 11) else 10
noncomputable def oz (t : af) (c : bp) : af := bif decide (ji t c = 0) then c7 t c.rs else []
noncomputable def oe (t : af) (c : bp) : C := bif decide (ji t c = 0) then .elem [lst t] else .v (.pointer none)
theorem uoo (t : af) (c : bp) (m : Nat) : C.low m (oe t c) := by
 unfold oe
 cases decide (ji t c = 0)
 ·exact .v
 exact .elem fun d hd => by simp only [List.mem_singleton] at hd; subst hd; exact bd _ _
theorem copyEr_zero : ji t c = 0 ↔ bw t = true ∧ jj t c = true := by
 unfold ji
 cases bw t <;> cases jj t c <;> simp
end
end Go.AB
namespace Go.Proofs.YtjjklfgpffgnfabGreatDoor
set_option maxRecDepth 10000
open Go.RowKit Go.AB
open Go.AB.Enc (cells)
open Go.PB (bh af PlaceD ar bp cj)
set_option maxHeartbeats 4000000 in
theorem upy (n : Nat) (t : af) (c : bp) (ht : bw t = true) : s7 n si Tryz.prog 96 [.elem [lst t], val c] (.v (.bool (jj t c))) := fun G nx hF hnx => by
 refine j6 (G) (nx) Tryz.func96 rfl (.v) zN (fun hlt => zH) ?_
 simp only [Tryz.ntmps96, List.length_cons, List.length_nil, Nat.reduceAdd, Nat.reduceSub]
 refine bf fun hlt => ?_
 dsimp only at hlt
 obtain ⟨htx1, htx2, htx3⟩ := kh ht
 refine jn 1 (fun hf => ?_)
 have hf0 := fit_lst.1 (fit_agg.1 hf _ (by exact List.mem_cons_of_mem _ (List.mem_cons_self ..)))
 have hfk : ∀ r ∈ c.rs, 0 ≤ r.kind ∧ r.kind ≤ 255 := fun r hr => by
  have := okV_int.1 (fit_v.1 (hf0.2 r hr _ (by exact List.mem_cons_of_mem _ (List.mem_cons_of_mem _ (List.mem_cons_of_mem _ (List.mem_cons_self ..))))))
  exact this
 have hf1 := hf0.1
 refine yS fun _ K1 => ?_
 refine yR ?_
 try dsimp only [St.put]
 refine yB rfl rfl rfl ?_
 refine yA rfl rfl ?_
 refine yN ?_
 dsimp only [St.put]
 refine K1 _ ?_
 refine yS fun _ K2 => ?_
 refine yS fun _ K3 => ?_
 refine yR ?_
 refine yF rfl rfl rfl rfl ?_
 refine yL rfl rfl rfl ?_
 try dsimp only [St.put]
 refine ae rfl (cq rfl rfl rfl (by decide) (by decide) zR (by decide) ?_)
 try dsimp only [St.put]
 refine ae rfl (a7 rfl rfl rfl (lh _ _ [c.id]) ?_)
 refine aa rfl (c9 rfl rfl) ?_
 refine et (fun hs => ?_) (fun hs => ?_)
 ·have h1 : inB c.id 0 9999 = false := by rw [gk] at hs; simpa using hs
  refine yM rfl rfl ?_
  refine yK rfl ?_
  refine yK rfl ?_
  refine yK rfl ?_
  refine yK rfl ?_
  refine aa rfl (co rfl rfl (by constructor)) ?_
  refine yN ?_
  dsimp only [St.put]
  refine K3 _ ?_
  refine ak rfl (fun _ => ?_) (fun h => by cases h)
  skip
  refine yS fun _ K4 => ?_
  refine yR ?_
  refine yA rfl rfl ?_
  refine yN ?_
  dsimp only [St.put]
  refine K4 _ ?_
  refine aj ?_
  refine ay rfl (by constructor) zN zS ?_
  first
  | exact vb (uel h1).symm
  | exact vb (uek (by have := of_decide_eq_true hc; omega)).symm
 have h1 : inB c.id 0 9999 = true := by rw [gk] at hs; simpa using hs
 refine yM rfl rfl ?_
 refine yF rfl rfl rfl rfl ?_
 refine yL rfl rfl rfl ?_
 refine aa rfl (bx rfl rfl (List.length_map _)) ?_
 refine aa rfl (io rfl rfl rfl) ?_
 refine aa rfl (dh rfl rfl (by constructor)) ?_
 refine yN ?_
 dsimp only [St.put]
 refine K3 _ ?_
 refine ak rfl (fun hc => ?_) (fun hc => ?_)
 ·skip
  refine yS fun _ K5 => ?_
  refine yR ?_
  refine yA rfl rfl ?_
  refine yN ?_
  dsimp only [St.put]
  refine K5 _ ?_
  refine aj ?_
  refine ay rfl (by constructor) zN zS ?_
  first
  | exact vb (uel h1).symm
  | exact vb (uek (by have := of_decide_eq_true hc; omega)).symm
 have hl20 : c.rs.length ≤ 20 := by have := of_decide_eq_false hc; omega
 refine aq ?_
 refine K2 _ ?_
 refine yS fun _ K6 => ?_
 refine yS fun _ K7 => ?_
 refine yR ?_
 refine yF rfl rfl rfl rfl ?_
 refine yL rfl rfl rfl ?_
 refine aa rfl (bx rfl rfl (List.length_map _)) ?_
 refine yM rfl rfl ?_
 refine yN ?_
 dsimp only [St.put]
 refine K7 _ ?_
 refine bg ?_
 refine di 28 ?_
 simp only [cx, bi, Nat.reduceAdd, List.getD_cons_zero, List.getD_cons_succ, List.getD_nil, dc, Nat.reduceBEq, cond_true, cond_false]
 refine dv (G) zX ?_
 dsimp only
 refine el (X := Nat) (fun k => k ≤ c.rs.length ∧ (c.rs.take k).all (j5 t) = true ∧ im (c.rs.take k) = true) (fun k => c.rs.length - k) (fun k => [(5, .any), (6, .any), (7, .any), (8, .any), (9, .any), (10, .any), (27, .v (.int .i64 (k : Int)))]) (fun k G' => G') 0 rfl ?_ ?_ (fun _ _ h => h) ?_ ?_ ?_
 ·exact ⟨Nat.zero_le _, rfl, rfl⟩
 ·exact zF
 ·rintro k hI
  exact zL
 ·exact fun _ _ _ _ h => .inl h
 rintro k hI
 dsimp only at hI ⊢
 refine yS fun _ K8 => ?_
 refine yR ?_
 refine aa rfl (ck rfl rfl rfl) ?_
 refine yN ?_
 dsimp only [St.put]
 refine K8 _ ?_
 refine yS fun _ K9 => ?_
 refine ak rfl (fun hc => ?_) (fun hc => ?_)
 ·replace hc := of_decide_eq_true hc
  obtain ⟨r, hx⟩ : ∃ x, c.rs[k]? = some x := dw (by omega)
  have hkf := hfk r (e8 hx)
  refine aq ?_
  refine K9 _ ?_
  refine yS fun _ K10 => ?_
  refine bg ?_
  refine yS fun _ K11 => ?_
  refine yR ?_
  refine yM rfl rfl ?_
  refine aa rfl (b8 rfl rfl rfl rfl (cg (by assumption)) (Enc.len _)) ?_
  refine yE rfl rfl rfl ?_
  try dsimp only [St.put]
  refine ae rfl (bj rfl ?_)
  refine yA rfl rfl ?_
  try dsimp only [St.put]
  refine ae rfl (ax rfl rfl rfl zG rfl rfl (by rfl) ?_)
  refine yN ?_
  dsimp only [St.put]
  refine K11 _ ?_
  refine cw (i := 6) rfl zG (by first | exact List.cons_ne_nil _ _ | (simp; done) | (simp [putAt]; done)) ?_
  dsimp only
  refine yS fun _ K12 => ?_
  refine yR ?_
  refine yM rfl rfl ?_
  refine yF rfl rfl rfl rfl ?_
  try dsimp only [St.put]
  (refine ba rfl (c := val r.pl) (ow (cs := cells r) rfl rfl (show 3 ≤ 5 by decide)) ?_)
  try dsimp only [St.put]
  refine ae rfl (a7 rfl rfl rfl (um t r.pl ht) ?_)
  refine yA rfl rfl ?_
  refine yN ?_
  dsimp only [St.put]
  refine K12 _ ?_
  refine yS fun _ K13 => ?_
  refine yS fun _ K14 => ?_
  by_cases hw : ei t (r.pl.ch, r.pl.ln) = none
  ·rw [hw]
   dsimp only [Option.getD_none]
   refine yR ?_
   refine yM rfl rfl ?_
   refine aa rfl (bx rfl rfl (List.length_map _)) ?_
   refine aa rfl (br (c := true) (gx rfl rfl rfl) (decide_eq_true rfl)) ?_
   refine yM rfl rfl ?_
   refine yK rfl ?_
   refine yK rfl ?_
   refine yK rfl ?_
   refine yK rfl ?_
   refine yK rfl ?_
   refine yK rfl ?_
   refine aa rfl (co rfl rfl (by constructor)) ?_
   refine yN ?_
   dsimp only [St.put]
   refine K14 _ ?_
   refine ak rfl (fun _ => ?_) (fun h => by cases h)
   refine yS fun _ K15 => ?_
   refine yR ?_
   refine yA rfl rfl ?_
   refine yN ?_
   dsimp only [St.put]
   refine K15 _ ?_
   refine aj ?_
   refine ay rfl (by constructor) zN zS ?_
   first
   | exact vb (rg hx (uaz hw)).symm
   | exact vb (rg hx (uay hk)).symm
  obtain ⟨l, hw2⟩ := Option.ne_none_iff_exists'.1 hw
  rw [hw2]
  dsimp only [Option.getD_some]
  obtain ⟨_, _, _, _, hl1, hl10⟩ := m6 ht hw2
  refine yR ?_
  refine yM rfl rfl ?_
  refine aa rfl (bx rfl rfl (List.length_map _)) ?_
  refine aa rfl (br (gx rfl rfl rfl) (decide_eq_false (by omega))) ?_
  refine yM rfl rfl ?_
  refine yF rfl rfl rfl rfl ?_
  refine yL rfl rfl rfl ?_
  refine aa rfl (uf rfl rfl (by kernel_rfl) (by kernel_rfl) (by omega)) ?_
  try dsimp only [St.put]
  refine ae rfl (cq rfl rfl rfl (by decide) (by decide) zR (by decide) ?_)
  try dsimp only [St.put]
  refine ae rfl (a7 rfl rfl rfl (lh _ _ [r.kind]) ?_)
  refine aa rfl (c9 rfl rfl) ?_
  refine et (fun hs => ?_) (fun hs => ?_)
  ·have hk : inB r.kind 1 3 = false := by rw [gk] at hs; simpa using hs
   refine aa rfl (dh rfl rfl (by constructor)) ?_
   refine yN ?_
   dsimp only [St.put]
   refine K14 _ ?_
   refine ak rfl (fun _ => ?_) (fun h => by cases h)
   refine yS fun _ K16 => ?_
   refine yR ?_
   refine yA rfl rfl ?_
   refine yN ?_
   dsimp only [St.put]
   refine K16 _ ?_
   refine aj ?_
   refine ay rfl (by constructor) zN zS ?_
   first
   | exact vb (rg hx (uaz hw)).symm
   | exact vb (rg hx (uay hk)).symm
  have hk : inB r.kind 1 3 = true := by rw [gk] at hs; simpa using hs
  rw [inB_true] at hk
  obtain ⟨kk, hkk, hkk1, hkk3⟩ : ∃ kk : Nat, r.kind = (kk : Int) ∧ 1 ≤ kk ∧ kk ≤ 3 := ⟨r.kind.toNat, by omega, by omega, by omega⟩
  obtain ⟨fr, gm, rest, hknd, hFun, _, hpr, _⟩ := ucx hkk1 hkk3
  have hrB := uir t r hw2 hkk hkk1 hkk3
  have hbh : 0 ≤ ly kk ∧ ly kk ≤ 1 := by unfold ly; cases decide (kk = 2) <;> decide
  refine aa rfl (dh rfl rfl (by constructor)) ?_
  refine yN ?_
  dsimp only [St.put]
  refine K14 _ ?_
  refine ak rfl (fun h => by cases h) (fun _ => ?_)
  refine aq ?_
  refine K13 _ ?_
  refine yS fun _ K17 => ?_
  refine yR ?_
  refine yF rfl rfl rfl rfl ?_
  refine yL rfl rfl rfl ?_
  try dsimp only [St.put]
  refine aa rfl (ub3 (j := n) (k := kk) rfl rfl zG rfl hkk (by omega) hknd) ?_
  try dsimp only [St.put]
  refine ba rfl (c := .agg [.v (.int .i64 (ly kk)), .fn (.func fr) [], .fn (.func gm) []]) (ow (n := 3) (cs := .v (.int .i64 (ly kk)) :: .fn (.func fr) [] :: .fn (.func gm) [] :: rest) rfl rfl (by simp only [List.length_cons]; omega)) ?_
  try dsimp only [St.put]
  refine ae rfl (bj rfl ?_)
  try dsimp only [St.put]
  refine ae rfl (ax rfl rfl rfl zG rfl rfl (by rfl) ?_)
  refine yN ?_
  dsimp only [St.put]
  refine K17 _ ?_
  refine cw (i := 8) rfl zG (by first | exact List.cons_ne_nil _ _ | (simp; done) | (simp [putAt]; done)) ?_
  dsimp only
  refine yS fun _ K18 => ?_
  refine yS fun _ K19 => ?_
  refine ml [(0, none), (1, none), (2, none), (3, none), (4, none), (5, none), (6, none), (7, none), (8, none)] (fun _ => false) (fun i => [0, 1, 2, 3, 5, 6, 7].contains i) 16 [true, true, true, true, true, true, true, true, true, false, false, false, false, false, false, false, false, false, false, false, false, false, false, false, false] (by kernel_rfl) (by kernel_rfl) ?_
  refine xM rfl rfl rfl rfl rfl ?_
  refine ai rfl rfl rfl rfl (bx rfl rfl (List.length_map _)) ?_
  refine ai rfl rfl rfl rfl (g9 rfl rfl rfl (by omega)) ?_
  refine ai rfl rfl rfl rfl (cd rfl rfl rfl) ?_
  try dsimp only [St.put]
  refine az rfl rfl rfl rfl (bq rfl rfl) ?_
  refine ai rfl rfl rfl rfl (ca rfl rfl rfl (by omega)) ?_
  refine ai rfl rfl rfl rfl (cd rfl rfl rfl) ?_
  refine ai rfl rfl rfl rfl (cd rfl rfl rfl) ?_
  try dsimp only [St.put]
  refine az rfl rfl rfl rfl (bq rfl rfl) ?_
  refine b9 ?_
  refine bv [9] (by kernel_rfl) (by simp) ?_
  refine bo ?_ ?_
  ·try dsimp only [St.put]
   refine bz rfl rfl rfl (cq rfl rfl rfl (by decide) (by decide) zR (by decide) ?_)
   refine bv [10] (by kernel_rfl) (by simp) ?_
   refine bo ?_ ?_
   ·try dsimp only [St.put]
    refine bz rfl rfl rfl (a7 rfl rfl rfl (lh _ _ [r.pl.wd]) ?_)
    refine cy [(11, none), (12, none), (13, none), (14, none), (15, none), (16, none), (17, none), (18, none), (20, none), (21, none)] (fun i => [11, 12, 13, 15, 16, 17, 20].contains i) 4 [true, true, true, true, true, true, true, true, true, true, true, true, true, true, true, true, true, true, true, false, true, true, false, false, false] (by kernel_rfl) ?_
    refine ai rfl rfl rfl rfl (c9 rfl rfl) ?_
    refine p5 (fun hs => ?_) (fun hs => ?_)
    ·have hb : inB r.pl.wd 0 ((l.length : Int) - 1 + ly kk) = false := by rw [gk] at hs; simpa using hs
     refine xM rfl rfl rfl rfl rfl ?_
     refine bc rfl rfl rfl ?_
     refine bc rfl rfl rfl ?_
     refine bc rfl rfl rfl ?_
     refine bc rfl rfl rfl ?_
     refine bc rfl rfl rfl ?_
     refine bc rfl rfl rfl ?_
     refine bc rfl rfl rfl ?_
     refine bc rfl rfl rfl ?_
     refine b9 ?_
     refine bv [19] (by kernel_rfl) (by simp) ?_
     refine bo ?_ ?_
     ·refine k9 rfl rfl rfl ?_
      refine bv [22] (by kernel_rfl) (by simp) ?_
      refine bo ?_ ?_
      ·refine k9 rfl rfl rfl ?_
       refine cy [(23, none), (24, none)] (fun i => [23, 24].contains i) 0 [true, true, true, true, true, true, true, true, true, true, true, true, true, true, true, true, true, true, true, true, true, true, true, true, true] (by kernel_rfl) ?_
       refine bc rfl rfl rfl ?_
       refine ai rfl rfl rfl rfl (co rfl rfl (by constructor)) ?_
       refine b9 ?_
       dsimp only [St.put]
       refine g6 (by kernel_rfl) ?_
       refine K19 _ ?_
       refine ak rfl (fun _ => ?_) (fun h => by cases h)
       have hrd : j5 t r = false := by
        rw [hrB]
        first
         | (rw [hb]; rfl)
         | (rw [hb, Bool.true_and]; simpa using hc)
       refine yS fun _ K20 => ?_
       refine yR ?_
       refine yA rfl rfl ?_
       refine yN ?_
       dsimp only [St.put]
       refine K20 _ ?_
       refine aj ?_
       refine ay rfl (by constructor) zN zS ?_
       exact vb (rg hx hrd).symm
      exact bu
     exact bu
    have hb : inB r.pl.wd 0 ((l.length : Int) - 1 + ly kk) = true := by rw [gk] at hs; simpa using hs
    have hb2 := inB_true.1 hb
    have hown : ce Tryz.prog 97 [lst l, .v (.int .i64 r.pl.wd)] (.v (.string (eo l r.pl.wd.toNat))) := by
     have := ucp l r.pl.wd.toNat (by omega)
     rwa [Int.toNat_of_nonneg hb2.1] at this
    refine xM rfl rfl rfl rfl rfl ?_
    refine ai rfl rfl rfl rfl (cd rfl rfl rfl) ?_
    try dsimp only [St.put]
    refine az rfl rfl rfl rfl (bq rfl rfl) ?_
    refine xM rfl rfl rfl rfl rfl ?_
    refine ai rfl rfl rfl rfl (cd rfl rfl rfl) ?_
    refine ai rfl rfl rfl rfl (cd rfl rfl rfl) ?_
    try dsimp only [St.put]
    refine az rfl rfl rfl rfl (bq rfl rfl) ?_
    refine ai rfl rfl rfl rfl (cd rfl rfl rfl) ?_
    try dsimp only [St.put]
    refine az rfl rfl rfl rfl (bq rfl rfl) ?_
    refine b9 ?_
    refine bv [19] (by kernel_rfl) (by simp) ?_
    refine bo ?_ ?_
    ·try dsimp only [St.put]
     refine bz rfl rfl rfl (a7 rfl rfl rfl (hown) ?_)
     refine bv [22] (by kernel_rfl) (by simp) ?_
     refine bo ?_ ?_
     ·try dsimp only [St.put]
      refine bz rfl rfl rfl (a7 rfl rfl rfl (hpr _ _) ?_)
      refine cy [(23, none), (24, none)] (fun i => [23, 24].contains i) 0 [true, true, true, true, true, true, true, true, true, true, true, true, true, true, true, true, true, true, true, true, true, true, true, true, true] (by kernel_rfl) ?_
      refine ai rfl rfl rfl rfl (c9 rfl rfl) ?_
      refine ai rfl rfl rfl rfl (dh rfl rfl (by constructor)) ?_
      refine b9 ?_
      dsimp only [St.put]
      refine g6 (by kernel_rfl) ?_
      refine K19 _ ?_
      refine ak rfl (fun hc => ?_) (fun hc => ?_)
      ·have hrd : j5 t r = false := by
        rw [hrB]
        first
         | (rw [hb]; rfl)
         | (rw [hb, Bool.true_and]; simpa using hc)
       refine yS fun _ K21 => ?_
       refine yR ?_
       refine yA rfl rfl ?_
       refine yN ?_
       dsimp only [St.put]
       refine K21 _ ?_
       refine aj ?_
       refine ay rfl (by constructor) zN zS ?_
       exact vb (rg hx hrd).symm
      have hrd : j5 t r = true := by rw [hrB, hb, Bool.true_and]; simpa using hc
      refine aq ?_
      refine K18 _ ?_
      refine yS fun _ K22 => ?_
      refine yS fun _ K23 => ?_
      refine yR ?_
      refine yM rfl rfl ?_
      refine aa rfl (gx rfl rfl rfl) ?_
      refine yN ?_
      dsimp only [St.put]
      refine K23 _ ?_
      refine ak rfl (fun hc => ?_) (fun hc => ?_)
      ·replace hc := of_decide_eq_true hc
       have hk0 : k = 0 := by omega
       have hord : im (c.rs.take (k + 1)) = true := by
        rw [hk0] at hx ⊢
        exact uju hx
       refine dl ?_
       refine K10 _ ?_
       refine yR ?_
       refine aa rfl (ca rfl rfl rfl (by omega)) ?_
       refine yM rfl rfl ?_
       refine yN ?_
       dsimp only [St.put]
       exact ⟨k + 1, by omega, ⟨by omega, by rw [mq hx, hI.2.1, hrd]; rfl, hord⟩, ⟨⟨rfl, rfl⟩, zF, zB, zN, zX⟩⟩
      replace hc := of_decide_eq_false hc
      obtain ⟨a, ha⟩ : ∃ x, c.rs[k - 1]? = some x := dw (by omega)
      have hst := ujt hx (by omega) ha hI.2.2
      refine aq ?_
      refine K22 _ ?_
      refine yS fun _ K24 => ?_
      refine yR ?_
      refine yF rfl rfl rfl rfl ?_
      refine yL rfl rfl rfl ?_
      refine yM rfl rfl ?_
      refine aa rfl (g9 rfl rfl rfl (by omega)) ?_
      try dsimp only [St.put]
      refine aa rfl (b8 (k := k - 1) rfl rfl rfl (by omega) (cg ha) (Enc.len _)) ?_
      refine yE rfl rfl rfl ?_
      try dsimp only [St.put]
      refine ae rfl (bj rfl ?_)
      try dsimp only [St.put]
      refine ae rfl (ax rfl rfl rfl zG rfl rfl (by rfl) ?_)
      refine yN ?_
      dsimp only [St.put]
      refine K24 _ ?_
      refine cw (i := 9) rfl zG (by first | exact List.cons_ne_nil _ _ | (simp; done) | (simp [putAt]; done)) ?_
      dsimp only
      refine yS fun _ K25 => ?_
      refine yR ?_
      refine yF rfl rfl rfl rfl ?_
      try dsimp only [St.put]
      (refine ba rfl (c := val a.pl) (ow (cs := cells a) rfl rfl (show 3 ≤ 5 by decide)) ?_)
      refine yF rfl rfl rfl rfl ?_
      try dsimp only [St.put]
      (refine ba rfl (c := val r.pl) (ow (cs := cells r) rfl rfl (show 3 ≤ 5 by decide)) ?_)
      try dsimp only [St.put]
      refine ae rfl (a7 rfl rfl rfl (ulk a.pl r.pl) ?_)
      refine yA rfl rfl ?_
      refine yN ?_
      dsimp only [St.put]
      refine K25 _ ?_
      refine yS fun _ K26 => ?_
      refine yR ?_
      refine yM rfl rfl ?_
      refine aa rfl (io rfl rfl rfl) ?_
      refine et (fun hs => ?_) (fun hs => ?_)
      ·have ho1 := of_decide_eq_true hs
       refine yM rfl rfl ?_
       refine yK rfl ?_
       refine yK rfl ?_
       refine yK rfl ?_
       refine yK rfl ?_
       refine yK rfl ?_
       refine yK rfl ?_
       refine yK rfl ?_
       refine aa rfl (co rfl rfl (by constructor)) ?_
       refine yN ?_
       dsimp only [St.put]
       skip
       refine K26 _ ?_
       refine ak rfl (fun _ => ?_) (fun h => by cases h)
       skip
       refine yS fun _ K27 => ?_
       refine yR ?_
       refine yA rfl rfl ?_
       refine yN ?_
       dsimp only [St.put]
       refine K27 _ ?_
       refine aj ?_
       refine ay rfl (by constructor) zN zS ?_
       exact vb (uej (k := k + 1) (by
        rw [hst]
        cases h : ou a r with
        | false => rfl
        | true =>
         obtain ⟨q1, q2⟩ := stepB_true.1 h
         first
          | exact absurd ho1 q1
          | (have q3 := q2 (cmpP_zero.1 ho2)
             rw [q3] at hc
             exact absurd hc (by decide)))).symm
      have ho1 := of_decide_eq_false hs
      refine yM rfl rfl ?_
      refine yM rfl rfl ?_
      refine aa rfl (gx rfl rfl rfl) ?_
      refine et (fun hs => ?_) (fun hs => ?_)
      ·have ho2 := of_decide_eq_true hs
       refine yM rfl rfl ?_
       refine yF rfl rfl rfl rfl ?_
       refine yL rfl rfl rfl ?_
       refine aa rfl (cz rfl rfl rfl) ?_
       refine aa rfl (co rfl rfl (by constructor)) ?_
       refine aa rfl (dh rfl rfl (by constructor)) ?_
       refine yN ?_
       dsimp only [St.put]
       skip
       refine K26 _ ?_
       refine ak rfl (fun hc => ?_) (fun hc => ?_)
       ·skip
        refine yS fun _ K28 => ?_
        refine yR ?_
        refine yA rfl rfl ?_
        refine yN ?_
        dsimp only [St.put]
        refine K28 _ ?_
        refine aj ?_
        refine ay rfl (by constructor) zN zS ?_
        exact vb (uej (k := k + 1) (by
         rw [hst]
         cases h : ou a r with
         | false => rfl
         | true =>
          obtain ⟨q1, q2⟩ := stepB_true.1 h
          first
           | exact absurd ho1 q1
           | (have q3 := q2 (cmpP_zero.1 ho2)
              rw [q3] at hc
              exact absurd hc (by decide)))).symm
       have hord : im (c.rs.take (k + 1)) = true := by
        rw [hst]
        refine stepB_true.2 ⟨ho1, fun e => ?_⟩
        first
         | exact absurd (cmpP_zero.2 e) ho2
         | simpa using hc
       refine aq ?_
       refine K10 _ ?_
       refine yR ?_
       refine aa rfl (ca rfl rfl rfl (by omega)) ?_
       refine yM rfl rfl ?_
       refine yN ?_
       dsimp only [St.put]
       exact ⟨k + 1, by omega, ⟨by omega, by rw [mq hx, hI.2.1, hrd]; rfl, hord⟩, ⟨⟨rfl, rfl⟩, zF, zB, zN, zX⟩⟩
      have ho2 := of_decide_eq_false hs
      refine yM rfl rfl ?_
      refine yK rfl ?_
      refine yK rfl ?_
      refine yK rfl ?_
      refine aa rfl (dh rfl rfl (by constructor)) ?_
      refine aa rfl (dh rfl rfl (by constructor)) ?_
      refine yN ?_
      dsimp only [St.put]
      skip
      refine K26 _ ?_
      refine ak rfl (fun h => by cases h) (fun _ => ?_)
      have hord : im (c.rs.take (k + 1)) = true := by
       rw [hst]
       refine stepB_true.2 ⟨ho1, fun e => ?_⟩
       first
        | exact absurd (cmpP_zero.2 e) ho2
        | simpa using hc
      refine aq ?_
      refine K10 _ ?_
      refine yR ?_
      refine aa rfl (ca rfl rfl rfl (by omega)) ?_
      refine yM rfl rfl ?_
      refine yN ?_
      dsimp only [St.put]
      exact ⟨k + 1, by omega, ⟨by omega, by rw [mq hx, hI.2.1, hrd]; rfl, hord⟩, ⟨⟨rfl, rfl⟩, zF, zB, zN, zX⟩⟩
     exact bu
    exact bu
   exact bu
  exact bu
 replace hc := of_decide_eq_false hc
 have hv : rsB t c.rs = true := by
  obtain ⟨_, h2, h3⟩ := hI
  rw [fj (by omega)] at h2 h3
  simp [rsB, h2, h3]
 have hrl := tw t c.rs
 refine dl ?_
 refine K6 _ ?_
 refine yS fun _ K29 => ?_
 refine yS fun _ K30 => ?_
 refine yR ?_
 refine yM rfl rfl ?_
 refine yE rfl rfl rfl ?_
 try dsimp only [St.put]
 refine ae rfl (sv rfl rfl rfl (ufc n t c ht hl20 hv) zG (by dsimp only; omega) ?_)
 refine aa rfl (uko rfl rfl rfl) ?_
 refine aa rfl (bx rfl rfl (List.length_map _)) ?_
 refine yM rfl rfl ?_
 refine yN ?_
 dsimp only [St.put]
 refine K30 _ ?_
 refine bg ?_
 refine di 107 ?_
 simp only [cx, bi, Nat.reduceAdd, List.getD_cons_zero, List.getD_cons_succ, List.getD_nil, dc, Nat.reduceBEq, cond_true, cond_false]
 refine dv (G) zX ?_
 dsimp only
 refine el (X := Nat) (fun j => j ≤ (c7 t c.rs).length ∧ ((c7 t c.rs).take j).all lnB = true) (fun j => (c7 t c.rs).length - j) (fun j => [(12, .any), (106, .v (.int .i64 (j : Int)))]) (fun j G' => G') 0 rfl ?_ ?_ (fun _ _ h => h) ?_ ?_ ?_
 ·exact ⟨Nat.zero_le _, rfl⟩
 ·exact zF
 ·rintro j hI
  exact zL
 ·exact fun _ _ _ _ h => .inl h
 rintro j hJ
 dsimp only at hJ ⊢
 refine yS fun _ K31 => ?_
 refine yR ?_
 refine aa rfl (ck rfl rfl rfl) ?_
 refine yN ?_
 dsimp only [St.put]
 refine K31 _ ?_
 refine yS fun _ K32 => ?_
 refine ak rfl (fun hc => ?_) (fun hc => ?_)
 ·replace hc := of_decide_eq_true hc
  obtain ⟨y, hy⟩ : ∃ x, (c7 t c.rs)[j]? = some x := dw (by omega)
  refine aq ?_
  refine K32 _ ?_
  refine yS fun _ K33 => ?_
  refine bg ?_
  refine yS fun _ K34 => ?_
  refine yR ?_
  refine aa rfl (b8 rfl rfl rfl rfl (cg (by assumption)) (Enc.len _)) ?_
  refine yE rfl rfl rfl ?_
  try dsimp only [St.put]
  refine ae rfl (bj rfl ?_)
  try dsimp only [St.put]
  refine ae rfl (ax rfl rfl rfl zG rfl rfl (by rfl) ?_)
  refine yN ?_
  dsimp only [St.put]
  refine K34 _ ?_
  refine cw (i := 12) rfl zG (by first | exact List.cons_ne_nil _ _ | (simp; done) | (simp [putAt]; done)) ?_
  dsimp only
  refine yS fun _ K35 => ?_
  refine yR ?_
  refine yF rfl rfl rfl rfl ?_
  refine yL rfl rfl rfl ?_
  try dsimp only [St.put]
  refine ae rfl (a7 rfl rfl rfl (urh y.lines (fun l => !inB l.length 1 10) _ _ (fun z hz => uik z (ui4 ht hv hl20 hy z hz))) ?_)
  refine yN ?_
  dsimp only [St.put]
  refine K35 _ ?_
  refine ak rfl (fun hc => ?_) (fun hc => ?_)
  ·have hln : lnB y = false := by rw [uci] at hc; simpa using hc
   refine yS fun _ K36 => ?_
   refine yR ?_
   refine yA rfl rfl ?_
   refine yN ?_
   dsimp only [St.put]
   refine K36 _ ?_
   refine aj ?_
   refine ay rfl (by constructor) zN zS ?_
   exact vb (uoj (ke hy hln)).symm
  have hln : lnB y = true := by rw [uci] at hc; simpa using hc
  refine aq ?_
  refine K33 _ ?_
  refine yR ?_
  refine aa rfl (ca rfl rfl rfl (by omega)) ?_
  refine yM rfl rfl ?_
  refine yN ?_
  dsimp only [St.put]
  exact ⟨j + 1, by omega, ⟨by omega, by rw [mq hy, hJ.2, hln]; rfl⟩, ⟨⟨rfl, rfl⟩, zF, zB, zN, zX⟩⟩
 replace hc := of_decide_eq_false hc
 refine dl ?_
 refine K29 _ ?_
 refine yS fun _ K37 => ?_
 refine yR ?_
 refine yA rfl rfl ?_
 refine yN ?_
 dsimp only [St.put]
 refine K37 _ ?_
 refine aj ?_
 refine ay rfl (by constructor) zN zS ?_
 exact vb (by
  have h2 := hJ.2
  rw [fj (by omega)] at h2
  exact (copyB_true.2 ⟨h1, hl20, hv, h2⟩).symm)
theorem uon (n : Nat) (t : af) (c : bp) : s7 n si Tryz.prog 72 [b7 t, val c] (.tup [oe t c, .v (.int .i64 (ji t c))]) := fun G nx hF hnx => by
 refine j6 (G) (nx) Tryz.func72 rfl (.tup (am (uoo _ _ _) (am .v bn))) zN (fun hlt => zH) ?_
 simp only [Tryz.ntmps72, List.length_cons, List.length_nil, Nat.reduceAdd, Nat.reduceSub]
 refine bf fun hlt => ?_
 dsimp only at hlt
 refine yS fun _ K1 => ?_
 refine yR ?_
 try dsimp only [St.put]
 refine yB rfl rfl rfl ?_
 try dsimp only [St.put]
 refine yB rfl rfl rfl ?_
 refine yA rfl rfl ?_
 refine yA rfl rfl ?_
 refine yN ?_
 dsimp only [St.put]
 refine K1 _ ?_
 refine yS fun _ K2 => ?_
 refine yR ?_
 try dsimp only [St.put]
 refine ba rfl (bk rfl rfl rfl) ?_
 try dsimp only [St.put]
 refine ae rfl (a7 rfl rfl rfl (ucq t) ?_)
 refine yM rfl rfl ?_
 refine yX rfl rfl rfl rfl ?_
 refine yX rfl rfl rfl rfl ?_
 refine yA rfl rfl ?_
 refine yA rfl rfl ?_
 refine yN ?_
 dsimp only [St.put]
 refine K2 _ ?_
 refine yS fun _ K3 => ?_
 refine yS fun _ K4 => ?_
 refine yR ?_
 refine yM rfl rfl ?_
 refine aa rfl (cz rfl rfl rfl) ?_
 refine yN ?_
 dsimp only [St.put]
 refine K4 _ ?_
 refine ak rfl (fun hc => ?_) (fun hc => ?_)
 ·have htx : bw t = false := by
   cases h : bw t
   ·rfl
   simp [fq, h] at hc
  refine yS fun _ K5 => ?_
  refine yR ?_
  refine yM rfl rfl ?_
  refine yA rfl rfl ?_
  refine yA rfl rfl ?_
  refine yN ?_
  dsimp only [St.put]
  refine K5 _ ?_
  refine aj ?_
  refine ix rfl (by constructor) (by constructor) zN zS ?_ ?_
  ·simp [oe, ji, htx]
  exact vi (by simp [ji, fq, htx])
 have htx : bw t = true := by
  cases h : bw t
  ·simp [fq, h] at hc
  rfl
 rw [show ne t = .elem [lst t] by simp [ne, htx]]
 refine aq ?_
 refine K3 _ ?_
 refine yS fun _ K6 => ?_
 refine yS fun _ K7 => ?_
 refine yR ?_
 refine yM rfl rfl ?_
 refine yE rfl rfl rfl ?_
 try dsimp only [St.put]
 refine ae rfl (sv rfl rfl rfl (upy n t c htx) zG (by dsimp only; omega) ?_)
 refine aa rfl (c9 rfl rfl) ?_
 refine yN ?_
 dsimp only [St.put]
 refine K7 _ ?_
 refine ak rfl (fun hc => ?_) (fun hc => ?_)
 ·have h1 : jj t c = false := by simpa using hc
  refine yS fun _ K8 => ?_
  refine yR ?_
  refine yA rfl rfl ?_
  refine yA rfl rfl ?_
  refine yN ?_
  dsimp only [St.put]
  refine K8 _ ?_
  refine aj ?_
  refine ix rfl (by constructor) (by constructor) zN zS ?_ ?_
  ·simp [oe, ji, htx, h1]
  exact vi (by simp [ji, htx, h1])
 have h1 : jj t c = true := by simpa using hc
 refine aq ?_
 refine K6 _ ?_
 refine yS fun _ K9 => ?_
 refine yR ?_
 refine yM rfl rfl ?_
 refine yA rfl rfl ?_
 refine yA rfl rfl ?_
 refine yN ?_
 dsimp only [St.put]
 refine K9 _ ?_
 refine aj ?_
 refine ix rfl (by constructor) (by constructor) zN zS ?_ ?_
 ·simp [oe, ji, htx, h1]
 exact vi (by simp [ji, htx, h1])
theorem uli (n : Nat) (t : af) (c : bp) : s7 n si Tryz.prog 34 [b7 t, val c] (.tup [b7 (oz t c), .v (.int .i64 (ji t c))]) := fun G nx hF hnx => by
 refine j6 (G) (nx) Tryz.func34 rfl (.tup (am (.agg (am (bd _ _) bn)) (am .v bn))) zN (fun hlt => zH) ?_
 simp only [Tryz.ntmps34, List.length_cons, List.length_nil, Nat.reduceAdd, Nat.reduceSub]
 refine bf fun hlt => ?_
 dsimp only at hlt
 refine yS fun _ K1 => ?_
 refine yR ?_
 try dsimp only [St.put]
 refine yB rfl rfl rfl ?_
 try dsimp only [St.put]
 refine yB rfl rfl rfl ?_
 try dsimp only [St.put]
 refine ae rfl (bj rfl ?_)
 refine yA rfl rfl ?_
 refine yN ?_
 dsimp only [St.put]
 refine K1 _ ?_
 refine yS fun _ K2 => ?_
 refine yR ?_
 try dsimp only [St.put]
 refine ba rfl (bk rfl rfl rfl) ?_
 refine yE rfl rfl rfl ?_
 try dsimp only [St.put]
 refine ae rfl (sv rfl rfl rfl (uon n t c) zG (by dsimp only; omega) ?_)
 refine yM rfl rfl ?_
 refine yX rfl rfl rfl rfl ?_
 refine yX rfl rfl rfl rfl ?_
 refine yA rfl rfl ?_
 refine yA rfl rfl ?_
 refine yN ?_
 dsimp only [St.put]
 refine K2 _ ?_
 refine yS fun _ K3 => ?_
 refine yS fun _ K4 => ?_
 refine yR ?_
 refine yM rfl rfl ?_
 refine aa rfl (cz rfl rfl rfl) ?_
 refine yN ?_
 dsimp only [St.put]
 refine K4 _ ?_
 refine ak rfl (fun hc => ?_) (fun hc => ?_)
 ·have h0 : ji t c ≠ 0 := mx hc
  refine yS fun _ K5 => ?_
  refine yR ?_
  refine aa rfl (dg rfl rfl) ?_
  refine yM rfl rfl ?_
  try dsimp only [St.put]
  refine ae rfl (ax rfl rfl rfl zG rfl rfl (by rfl) ?_)
  refine yA rfl rfl ?_
  refine yN ?_
  dsimp only [St.put]
  refine K5 _ ?_
  refine aj ?_
  refine dj rfl (dr rfl zG (by rfl) (by first | exact List.cons_ne_nil _ _ | (simp; done) | (simp [putAt]; done)) rfl) (ci (by constructor)) zN zS ?_ ?_
  ·rw [show oz t c = [] by simp [oz, h0]]
   exact zW
  exact zW
 have h0 : ji t c = 0 := kw hc
 obtain ⟨h1, h2⟩ := copyEr_zero.1 h0
 obtain ⟨_, h3, h4, _⟩ := copyB_true.1 h2
 rw [show oe t c = .elem [lst t] by simp [oe, h0]]
 refine aq ?_
 refine K3 _ ?_
 refine yS fun _ K6 => ?_
 refine yR ?_
 refine yM rfl rfl ?_
 refine yE rfl rfl rfl ?_
 try dsimp only [St.put]
 refine ae rfl (sv rfl rfl rfl (ufc n t c h1 h3 h4) zG (by dsimp only; omega) ?_)
 try dsimp only [St.put]
 refine ae rfl (ax rfl rfl rfl zG rfl rfl (by rfl) ?_)
 refine yA rfl rfl ?_
 refine yN ?_
 dsimp only [St.put]
 refine K6 _ ?_
 refine aj ?_
 refine dj rfl (dr rfl zG (by rfl) (by first | exact List.cons_ne_nil _ _ | (simp; done) | (simp [putAt]; done)) rfl) (ci (by constructor)) zN zS ?_ ?_
 ·rw [show oz t c = c7 t c.rs by simp [oz, h0]]
  exact zW
 exact Wk.of_eq (vi h0.symm)
end Go.Proofs.YtjjklfgpffgnfabGreatDoor
