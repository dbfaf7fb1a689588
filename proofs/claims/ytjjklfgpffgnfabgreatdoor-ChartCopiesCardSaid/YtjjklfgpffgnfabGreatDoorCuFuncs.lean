/-
 Contracts: comparisons and copies of editions; valid stretches and editions, as the program checks them.
-/
import Derived.Test.YtjjklfgpffgnfabGreatDoorCtPlain
namespace Go.AB
open Go Go.RowKit
open Go.PB (bh af PlaceD)
/-- what a stretch is checked by, one by one -/
def og (t : af) (s : StretchD) : Nat → Bool
 | 0 => sB1 t s
 | 1 => sB2 t s
 | _ => sB3 s
theorem uo2 {t : af} {s : StretchD} (h : ∀ j, j < 3 → og t s j = true) : fu t s = true := by
 have h0 := h 0 (by omega)
 have h1 := h 1 (by omega)
 have h2 := h 2 (by omega)
 simp only [og] at h0 h1 h2
 simp [fu, h0, h1, h2]
theorem uo1 {t : af} {s : StretchD} {j : Nat} (hj : j < 3) (h : og t s j = false) : fu t s = false := by
 obtain rfl | rfl | rfl : j = 0 ∨ j = 1 ∨ j = 2 := by omega
 ·simp only [og] at h; simp [fu, h]
 ·simp only [og] at h; simp [fu, h]
 simp only [og] at h; simp [fu, h]
theorem yp {t : af} {e : aw} : iv t e = (inB e.id 0 9999 && (decide (e.ss.length ≤ 12) && decide ((e.ss.filter fun s => !fu t s).length = 0))) := by
 unfold iv
 congr 2
 rw [Bool.eq_iff_iff, List.all_eq_true, decide_eq_true_eq, List.length_eq_zero_iff, List.filter_eq_nil_iff]
 simp
end Go.AB
namespace Go.Proofs.YtjjklfgpffgnfabGreatDoor
set_option maxRecDepth 10000
open Go.RowKit Go.AB
open Go.AB.Enc (cells)
open Go.PB (bh af PlaceD ar bp cj)
theorem uft (a b : List PlaceD) : ce Tryz.prog 36 [lst a, lst b] (.v (.bool (decide (a = b)))) := by
 refine cv Tryz.func36 rfl (fun m => .v) fun G nx => ?_
 simp only [Tryz.ntmps36, List.length_cons, List.length_nil, Nat.reduceAdd, Nat.reduceSub]
 refine bf fun hlt => ?_
 dsimp only at hlt
 refine jn 0 (fun hf => ?_)
 have hf' : a.length ≤ 9223372036854775807 := (fit_lst.1 hf).1
 clear hf
 refine yS fun _ K1 => ?_
 refine yR ?_
 refine yA rfl rfl ?_
 refine yN ?_
 dsimp only [St.put]
 refine K1 _ ?_
 refine yS fun _ K2 => ?_
 refine yS fun _ K3 => ?_
 refine yR ?_
 refine yM rfl rfl ?_
 refine aa rfl (bx rfl rfl (List.length_map _)) ?_
 refine yM rfl rfl ?_
 refine aa rfl (bx rfl rfl (List.length_map _)) ?_
 refine aa rfl (cz rfl rfl rfl) ?_
 refine yN ?_
 dsimp only [St.put]
 refine K3 _ ?_
 refine ak rfl (fun hc => ?_) (fun hc => ?_)
 ·try replace hc := of_decide_eq_true hc
  refine yS fun _ K4 => ?_
  refine yR ?_
  refine yA rfl rfl ?_
  refine yN ?_
  dsimp only [St.put]
  refine K4 _ ?_
  refine aj ?_
  refine ay rfl (by constructor) zN zS ?_
  exact vb (by
   have : a ≠ b := fun e => by subst e; simp at hc
   simp [this])
 have hab := kw hc
 refine aq ?_
 refine K2 _ ?_
 refine yS fun _ K5 => ?_
 refine yS fun _ K6 => ?_
 refine yR ?_
 refine yA rfl rfl ?_
 refine yN ?_
 dsimp only [St.put]
 refine K6 _ ?_
 refine bg ?_
 refine di 6 ?_
 simp only [cx, bi, Nat.reduceAdd, List.getD_cons_zero, List.getD_cons_succ, List.getD_nil, dc, Nat.reduceBEq, cond_true, cond_false]
 refine dv (G) zX ?_
 dsimp only
 refine el (X := Nat) (fun k => k ≤ a.length ∧ a.take k = b.take k) (fun k => a.length - k) (fun k => [(5, .v (.int .i64 (k : Int)))]) (fun k G' => G') 0 rfl ?_ ?_ (fun _ _ h => h) ?_ ?_ ?_
 ·exact ⟨by simp, by simp⟩
 ·exact zF
 ·rintro k hI
  exact zL
 ·exact fun _ _ _ _ h => .inl h
 rintro k hI
 dsimp only at hI ⊢
 refine yS fun _ K7 => ?_
 refine yS fun _ K8 => ?_
 refine yR ?_
 refine yM rfl rfl ?_
 refine yM rfl rfl ?_
 refine aa rfl (bx rfl rfl (List.length_map _)) ?_
 refine aa rfl (ck rfl rfl rfl) ?_
 refine yN ?_
 dsimp only [St.put]
 refine K8 _ ?_
 refine ak rfl (fun hc => ?_) (fun hc => ?_)
 ·replace hc := of_decide_eq_true hc
  obtain ⟨x, hx⟩ : ∃ x, a[k]? = some x := dw (by omega)
  obtain ⟨y, hy⟩ : ∃ y, b[k]? = some y := dw (by omega)
  refine aq ?_
  refine K7 _ ?_
  refine yS fun _ K9 => ?_
  refine bg ?_
  refine yS fun _ K10 => ?_
  refine gh [(0, none), (1, none), (2, none), (3, none), (4, none), (5, none), (6, none), (7, none), (8, none)] (fun i => [].contains i) (fun i => [].contains i) (fun i => [0, 1, 2, 4, 5, 6, 8].contains i) [] (by kernel_rfl) (by kernel_rfl) ?_
  refine xM rfl rfl rfl rfl rfl ?_
  refine xM rfl rfl rfl rfl rfl ?_
  try dsimp only [St.put]
  refine ai rfl rfl rfl rfl (b8 rfl rfl rfl rfl (cg (by assumption)) (Enc.len _)) ?_
  try dsimp only [St.put]
  refine az rfl rfl rfl rfl (bk rfl rfl (Enc.len _)) ?_
  refine xM rfl rfl rfl rfl rfl ?_
  refine xM rfl rfl rfl rfl rfl ?_
  try dsimp only [St.put]
  refine ai rfl rfl rfl rfl (b8 rfl rfl rfl rfl (cg (by assumption)) (Enc.len _)) ?_
  try dsimp only [St.put]
  refine az rfl rfl rfl rfl (bk rfl rfl (Enc.len _)) ?_
  refine ai rfl rfl rfl rfl (xu (x := x) (y := y) rfl rfl rfl) ?_
  refine b9 ?_
  dsimp only [St.put]
  refine K10 _ ?_
  refine ak rfl (fun hc => ?_) (fun hc => ?_)
  ·try replace hc := of_decide_eq_true hc
   refine yS fun _ K11 => ?_
   refine yR ?_
   refine yA rfl rfl ?_
   refine yN ?_
   dsimp only [St.put]
   refine K11 _ ?_
   refine aj ?_
   refine ay rfl (by constructor) zN zS ?_
   exact vb (by
    have := xo hx hy (mx hc)
    simp [this])
  have hxy := kw hc
  refine aq ?_
  refine K9 _ ?_
  refine yR ?_
  refine yM rfl rfl ?_
  refine aa rfl (ca rfl rfl rfl (by omega)) ?_
  refine yA rfl rfl ?_
  refine yN ?_
  dsimp only [St.put]
  exact ⟨k + 1, by omega, ⟨by omega, wh hI.2 hx (hxy ▸ hy)⟩, ⟨⟨rfl, rfl⟩, zF, zB, zN, zX⟩⟩
 try replace hc := of_decide_eq_false hc
 refine dl ?_
 refine K5 _ ?_
 refine yS fun _ K12 => ?_
 refine yR ?_
 refine yA rfl rfl ?_
 refine yN ?_
 dsimp only [St.put]
 refine K12 _ ?_
 refine aj ?_
 refine ay rfl (by constructor) zN zS ?_
 exact vb (by
  have h1 := hI.2
  rw [fj (by omega), fj (by omega)] at h1
  simp [h1])
theorem ufs (a b : List StretchD) : ce Tryz.prog 38 [lst a, lst b] (.v (.bool (decide (a = b)))) := by
 refine cv Tryz.func38 rfl (fun m => .v) fun G nx => ?_
 simp only [Tryz.ntmps38, List.length_cons, List.length_nil, Nat.reduceAdd, Nat.reduceSub]
 refine bf fun hlt => ?_
 dsimp only at hlt
 refine jn 0 (fun hf => ?_)
 have hf' : a.length ≤ 9223372036854775807 := (fit_lst.1 hf).1
 clear hf
 refine yS fun _ K1 => ?_
 refine yR ?_
 refine yA rfl rfl ?_
 refine yN ?_
 dsimp only [St.put]
 refine K1 _ ?_
 refine yS fun _ K2 => ?_
 refine yS fun _ K3 => ?_
 refine yR ?_
 refine yM rfl rfl ?_
 refine aa rfl (bx rfl rfl (List.length_map _)) ?_
 refine yM rfl rfl ?_
 refine aa rfl (bx rfl rfl (List.length_map _)) ?_
 refine aa rfl (cz rfl rfl rfl) ?_
 refine yN ?_
 dsimp only [St.put]
 refine K3 _ ?_
 refine ak rfl (fun hc => ?_) (fun hc => ?_)
 ·try replace hc := of_decide_eq_true hc
  refine yS fun _ K4 => ?_
  refine yR ?_
  refine yA rfl rfl ?_
  refine yN ?_
  dsimp only [St.put]
  refine K4 _ ?_
  refine aj ?_
  refine ay rfl (by constructor) zN zS ?_
  exact vb (by
   have : a ≠ b := fun e => by subst e; simp at hc
   simp [this])
 have hab := kw hc
 refine aq ?_
 refine K2 _ ?_
 refine yS fun _ K5 => ?_
 refine yS fun _ K6 => ?_
 refine yR ?_
 refine yA rfl rfl ?_
 refine yN ?_
 dsimp only [St.put]
 refine K6 _ ?_
 refine bg ?_
 refine di 6 ?_
 simp only [cx, bi, Nat.reduceAdd, List.getD_cons_zero, List.getD_cons_succ, List.getD_nil, dc, Nat.reduceBEq, cond_true, cond_false]
 refine dv (G) zX ?_
 dsimp only
 refine el (X := Nat) (fun k => k ≤ a.length ∧ a.take k = b.take k) (fun k => a.length - k) (fun k => [(5, .v (.int .i64 (k : Int)))]) (fun k G' => G') 0 rfl ?_ ?_ (fun _ _ h => h) ?_ ?_ ?_
 ·exact ⟨by simp, by simp⟩
 ·exact zF
 ·rintro k hI
  exact zL
 ·exact fun _ _ _ _ h => .inl h
 rintro k hI
 dsimp only at hI ⊢
 refine yS fun _ K7 => ?_
 refine yS fun _ K8 => ?_
 refine yR ?_
 refine yM rfl rfl ?_
 refine yM rfl rfl ?_
 refine aa rfl (bx rfl rfl (List.length_map _)) ?_
 refine aa rfl (ck rfl rfl rfl) ?_
 refine yN ?_
 dsimp only [St.put]
 refine K8 _ ?_
 refine ak rfl (fun hc => ?_) (fun hc => ?_)
 ·replace hc := of_decide_eq_true hc
  obtain ⟨x, hx⟩ : ∃ x, a[k]? = some x := dw (by omega)
  obtain ⟨y, hy⟩ : ∃ y, b[k]? = some y := dw (by omega)
  refine aq ?_
  refine K7 _ ?_
  refine yS fun _ K9 => ?_
  refine bg ?_
  refine yS fun _ K10 => ?_
  refine gh [(0, none), (1, none), (2, none), (3, none), (4, none), (5, none), (6, none), (7, none), (8, none)] (fun i => [].contains i) (fun i => [].contains i) (fun i => [0, 1, 2, 4, 5, 6, 8].contains i) [] (by kernel_rfl) (by kernel_rfl) ?_
  refine xM rfl rfl rfl rfl rfl ?_
  refine xM rfl rfl rfl rfl rfl ?_
  try dsimp only [St.put]
  refine ai rfl rfl rfl rfl (b8 rfl rfl rfl rfl (cg (by assumption)) (Enc.len _)) ?_
  try dsimp only [St.put]
  refine az rfl rfl rfl rfl (bk rfl rfl (Enc.len _)) ?_
  refine xM rfl rfl rfl rfl rfl ?_
  refine xM rfl rfl rfl rfl rfl ?_
  try dsimp only [St.put]
  refine ai rfl rfl rfl rfl (b8 rfl rfl rfl rfl (cg (by assumption)) (Enc.len _)) ?_
  try dsimp only [St.put]
  refine az rfl rfl rfl rfl (bk rfl rfl (Enc.len _)) ?_
  refine ai rfl rfl rfl rfl (xu (x := x) (y := y) rfl rfl rfl) ?_
  refine b9 ?_
  dsimp only [St.put]
  refine K10 _ ?_
  refine ak rfl (fun hc => ?_) (fun hc => ?_)
  ·try replace hc := of_decide_eq_true hc
   refine yS fun _ K11 => ?_
   refine yR ?_
   refine yA rfl rfl ?_
   refine yN ?_
   dsimp only [St.put]
   refine K11 _ ?_
   refine aj ?_
   refine ay rfl (by constructor) zN zS ?_
   exact vb (by
    have := xo hx hy (mx hc)
    simp [this])
  have hxy := kw hc
  refine aq ?_
  refine K9 _ ?_
  refine yR ?_
  refine yM rfl rfl ?_
  refine aa rfl (ca rfl rfl rfl (by omega)) ?_
  refine yA rfl rfl ?_
  refine yN ?_
  dsimp only [St.put]
  exact ⟨k + 1, by omega, ⟨by omega, wh hI.2 hx (hxy ▸ hy)⟩, ⟨⟨rfl, rfl⟩, zF, zB, zN, zX⟩⟩
 try replace hc := of_decide_eq_false hc
 refine dl ?_
 refine K5 _ ?_
 refine yS fun _ K12 => ?_
 refine yR ?_
 refine yA rfl rfl ?_
 refine yN ?_
 dsimp only [St.put]
 refine K12 _ ?_
 refine aj ?_
 refine ay rfl (by constructor) zN zS ?_
 exact vb (by
  have h1 := hI.2
  rw [fj (by omega), fj (by omega)] at h1
  simp [h1])
theorem ud0 {a b : aw} : decide (a = b) = (decide (a.id = b.id) && decide (a.ss = b.ss)) := by
 obtain ⟨a1, a2⟩ := a
 obtain ⟨b1, b2⟩ := b
 rw [Bool.eq_iff_iff]; simp
theorem uq6 (a b : aw) : ce Tryz.prog 19 [val a, val b] (.v (.bool (decide (a = b)))) := by
 refine cv Tryz.func19 rfl (fun m => .v) fun G nx => ?_
 simp only [Tryz.ntmps19, List.length_cons, List.length_nil, Nat.reduceAdd, Nat.reduceSub]
 refine bf fun hlt => ?_
 dsimp only at hlt
 refine yS fun _ K1 => ?_
 refine yR ?_
 try dsimp only [St.put]
 refine yB rfl rfl rfl ?_
 try dsimp only [St.put]
 refine yB rfl rfl rfl ?_
 refine yA rfl rfl ?_
 refine yN ?_
 dsimp only [St.put]
 refine K1 _ ?_
 refine yS fun _ K2 => ?_
 refine yR ?_
 refine yF rfl rfl rfl rfl ?_
 refine yL rfl rfl rfl ?_
 refine yF rfl rfl rfl rfl ?_
 refine yL rfl rfl rfl ?_
 refine aa rfl (gx rfl rfl rfl) ?_
 refine yM rfl rfl ?_
 refine et (fun hs => ?_) (fun hs => ?_)
 ·try replace hs := of_decide_eq_true hs
  refine yF rfl rfl rfl rfl ?_
  refine yL rfl rfl rfl ?_
  refine yF rfl rfl rfl rfl ?_
  refine yL rfl rfl rfl ?_
  try dsimp only [St.put]
  refine ae rfl (a7 rfl rfl rfl (ufs _ _) ?_)
  refine aa rfl (co rfl rfl (by constructor)) ?_
  refine yA rfl rfl ?_
  refine yN ?_
  dsimp only [St.put]
  refine K2 _ ?_
  refine aj ?_
  refine ay rfl (by constructor) zN zS ?_
  exact vb (by rw [ud0]; simp [hs])
 try replace hs := of_decide_eq_false hs
 refine yK rfl ?_
 refine yK rfl ?_
 refine yK rfl ?_
 refine yK rfl ?_
 refine yK rfl ?_
 refine aa rfl (dh rfl rfl (by constructor)) ?_
 refine yA rfl rfl ?_
 refine yN ?_
 dsimp only [St.put]
 refine K2 _ ?_
 refine aj ?_
 refine ay rfl (by constructor) zN zS ?_
 exact vb (by rw [ud0]; simp [hs])
theorem umx (t : af) (es : List aw) : ce Tryz.prog 31 [b7 t, lst es] (.v (.bool (es.any (fun e => decide (20 < e.ss.length)) || od t))) := by
 refine cv Tryz.func31 rfl (fun m => .v) fun G nx => ?_
 simp only [Tryz.ntmps31, List.length_cons, List.length_nil, Nat.reduceAdd, Nat.reduceSub]
 refine bf fun hlt => ?_
 dsimp only at hlt
 refine jn 1 (fun hf => ?_)
 have hf' : es.length ≤ 9223372036854775807 := (fit_lst.1 hf).1
 clear hf
 refine yS fun _ K1 => ?_
 refine yR ?_
 try dsimp only [St.put]
 refine yB rfl rfl rfl ?_
 refine yA rfl rfl ?_
 refine yN ?_
 dsimp only [St.put]
 refine K1 _ ?_
 refine yS fun _ K2 => ?_
 refine yS fun _ K3 => ?_
 refine yR ?_
 refine yM rfl rfl ?_
 refine aa rfl (bx rfl rfl (List.length_map _)) ?_
 refine yM rfl rfl ?_
 refine yN ?_
 dsimp only [St.put]
 refine K3 _ ?_
 refine bg ?_
 refine di 10 ?_
 simp only [cx, bi, Nat.reduceAdd, List.getD_cons_zero, List.getD_cons_succ, List.getD_nil, dc, Nat.reduceBEq, cond_true, cond_false]
 refine dv (G) zX ?_
 dsimp only
 refine el (X := Nat) (fun k => k ≤ es.length ∧ (es.take k).any (fun e => decide (20 < e.ss.length)) = false) (fun k => es.length - k) (fun k => [(5, .any), (6, .any), (9, .v (.int .i64 (k : Int)))]) (fun k G' => G') 0 rfl ?_ ?_ (fun _ _ h => h) ?_ ?_ ?_
 ·exact ⟨by simp, by simp⟩
 ·exact zF
 ·rintro k hI
  exact zL
 ·exact fun _ _ _ _ h => .inl h
 rintro k hI
 dsimp only at hI ⊢
 refine yS fun _ K4 => ?_
 refine yR ?_
 refine aa rfl (ck rfl rfl rfl) ?_
 refine yN ?_
 dsimp only [St.put]
 refine K4 _ ?_
 refine yS fun _ K5 => ?_
 refine ak rfl (fun hc => ?_) (fun hc => ?_)
 ·replace hc := of_decide_eq_true hc
  obtain ⟨e, hx⟩ : ∃ x, es[k]? = some x := dw (by omega)
  refine aq ?_
  refine K5 _ ?_
  refine yS fun _ K6 => ?_
  refine bg ?_
  refine yS fun _ K7 => ?_
  refine yR ?_
  refine aa rfl (b8 rfl rfl rfl rfl (cg (by assumption)) (Enc.len _)) ?_
  refine yE rfl rfl rfl ?_
  try dsimp only [St.put]
  refine ae rfl (bj rfl ?_)
  try dsimp only [St.put]
  refine ae rfl (ax rfl rfl rfl zG rfl rfl (by rfl) ?_)
  refine yN ?_
  dsimp only [St.put]
  refine K7 _ ?_
  refine cw (i := 6) rfl zG (by first | exact List.cons_ne_nil _ _ | (simp; done) | (simp [putAt]; done)) ?_
  dsimp only
  refine yS fun _ K8 => ?_
  refine yR ?_
  refine yE rfl rfl rfl ?_
  try dsimp only [St.put]
  refine ae rfl (a7 rfl rfl rfl (ure _) ?_)
  refine yN ?_
  dsimp only [St.put]
  refine K8 _ ?_
  refine ak rfl (fun hc => ?_) (fun hc => ?_)
  ·have hd : decide (20 < e.ss.length) = true := hc
   refine yS fun _ K9 => ?_
   refine yR ?_
   refine yA rfl rfl ?_
   refine yN ?_
   dsimp only [St.put]
   refine K9 _ ?_
   refine aj ?_
   refine ay rfl (by constructor) zN zS ?_
   exact vb (by rw [pz hx hd]; rfl)
  have hd : decide (20 < e.ss.length) = false := hc
  refine aq ?_
  refine K6 _ ?_
  refine yR ?_
  refine aa rfl (ca rfl rfl rfl (by omega)) ?_
  refine yM rfl rfl ?_
  refine yN ?_
  dsimp only [St.put]
  exact ⟨k + 1, by omega, ⟨by omega, by rw [s3 hx, hI.2, hd]; rfl⟩, ⟨⟨rfl, rfl⟩, zF, zB, zN, zX⟩⟩
 try replace hc := of_decide_eq_false hc
 refine dl ?_
 refine K2 _ ?_
 refine yS fun _ K10 => ?_
 refine yR ?_
 try dsimp only [St.put]
 refine ba rfl (bk rfl rfl rfl) ?_
 try dsimp only [St.put]
 refine ae rfl (a7 rfl rfl rfl (urc _) ?_)
 refine yA rfl rfl ?_
 refine yN ?_
 dsimp only [St.put]
 refine K10 _ ?_
 refine aj ?_
 refine ay rfl (by constructor) zN zS ?_
 exact vb (by
  have h1 := hI.2
  rw [fj (by omega)] at h1
  rw [h1]; rfl)
/-! ### What a stretch is checked by -/
abbrev cr : GObj := .fact (.pointer (some ⟨0, 0, none⟩)) (.elem [.fn (.func 162) [], .fn (.func 163) [], .fn (.func 164) []])
theorem uo7 (t : af) (s : StretchD) (hl : t.length ≤ 6) : ce Tryz.prog 162 [b7 t, val s] (.v (.bool (sB1 t s))) := by
 refine cv Tryz.func162 rfl (fun m => .v) fun G nx => ?_
 simp only [Tryz.ntmps162, List.length_cons, List.length_nil, Nat.reduceAdd, Nat.reduceSub]
 refine bf fun hlt => ?_
 dsimp only at hlt
 refine yS fun _ K1 => ?_
 refine yR ?_
 try dsimp only [St.put]
 refine yB rfl rfl rfl ?_
 try dsimp only [St.put]
 refine yB rfl rfl rfl ?_
 refine yA rfl rfl ?_
 refine yN ?_
 dsimp only [St.put]
 refine K1 _ ?_
 refine yS fun _ K2 => ?_
 refine yR ?_
 refine yF rfl rfl rfl rfl ?_
 refine yL rfl rfl rfl ?_
 refine aa rfl (bx rfl rfl (List.length_map _)) ?_
 refine aa rfl (g9 rfl rfl rfl (by omega)) ?_
 refine yF rfl rfl rfl rfl ?_
 refine yL rfl rfl rfl ?_
 try dsimp only [St.put]
 refine ae rfl (cq rfl rfl rfl (by decide) (by decide) zR (by decide) ?_)
 try dsimp only [St.put]
 refine ae rfl (a7 rfl rfl rfl (n1 _ _ [s.ch]) ?_)
 refine yA rfl rfl ?_
 refine yN ?_
 dsimp only [St.put]
 refine K2 _ ?_
 refine aj ?_
 refine ay rfl (by constructor) zN zS ?_
 exact vb (by rw [gk]; rfl)
theorem uo6 (t : af) (s : StretchD) (ht : bw t = true) (h1 : sB1 t s = true) : ce Tryz.prog 163 [b7 t, val s] (.v (.bool (sB2 t s))) := by
 refine cv Tryz.func163 rfl (fun m => .v) fun G nx => ?_
 simp only [Tryz.ntmps163, List.length_cons, List.length_nil, Nat.reduceAdd, Nat.reduceSub]
 refine bf fun hlt => ?_
 dsimp only at hlt
 obtain ⟨hl1, hl2, hl3⟩ := kh ht
 have hn1' := h1
 simp only [sB1, inB_true] at hn1'
 obtain ⟨c, hcx⟩ : ∃ c, t[s.ch.toNat]? = some c := dw (by omega)
 have hnl : f7 t s.ch = c.lines.length := by simp [f7, hcx]
 have hll := (hl3 c (e8 hcx)).2.1
 have hch : s.ch = ((s.ch.toNat : Nat) : Int) := by omega
 refine yS fun _ K1 => ?_
 refine yR ?_
 try dsimp only [St.put]
 refine yB rfl rfl rfl ?_
 try dsimp only [St.put]
 refine yB rfl rfl rfl ?_
 refine yA rfl rfl ?_
 refine yN ?_
 dsimp only [St.put]
 refine K1 _ ?_
 refine yS fun _ K2 => ?_
 refine yR ?_
 refine yF rfl rfl rfl rfl ?_
 refine yL rfl rfl rfl ?_
 refine yF rfl rfl rfl rfl ?_
 refine yL rfl rfl rfl ?_
 try dsimp only [St.put]
 refine aa rfl (b8 rfl rfl rfl (by omega) (cg (by assumption)) (Enc.len _)) ?_
 refine yF rfl rfl rfl rfl ?_
 refine yL rfl rfl rfl ?_
 refine aa rfl (bx rfl rfl (List.length_map _)) ?_
 refine yA rfl rfl ?_
 refine yN ?_
 dsimp only [St.put]
 refine K2 _ ?_
 refine yS fun _ K3 => ?_
 refine yR ?_
 refine yM rfl rfl ?_
 refine aa rfl (g9 rfl rfl rfl (by omega)) ?_
 refine yF rfl rfl rfl rfl ?_
 refine yL rfl rfl rfl ?_
 try dsimp only [St.put]
 refine ae rfl (cq rfl rfl rfl (by decide) (by decide) zR (by decide) ?_)
 try dsimp only [St.put]
 refine ae rfl (a7 rfl rfl rfl (n1 _ _ [s.fr]) ?_)
 refine yM rfl rfl ?_
 refine et (fun hs => ?_) (fun hs => ?_)
 ·have h23 : inB s.fr 0 ((f7 t s.ch : Int) - 1) = true := by rw [hnl]; rwa [gk] at hs
  have hn2' := h23
  simp only [inB_true] at hn2'
  refine yF rfl rfl rfl rfl ?_
  refine yL rfl rfl rfl ?_
  refine aa rfl (ca rfl rfl rfl (by omega)) ?_
  refine yM rfl rfl ?_
  refine yF rfl rfl rfl rfl ?_
  refine yL rfl rfl rfl ?_
  try dsimp only [St.put]
  refine ae rfl (cq rfl rfl rfl (by decide) (by decide) zR (by decide) ?_)
  try dsimp only [St.put]
  refine ae rfl (a7 rfl rfl rfl (n1 _ _ [s.tt]) ?_)
  refine aa rfl (co rfl rfl (by constructor)) ?_
  refine yA rfl rfl ?_
  refine yN ?_
  dsimp only [St.put]
  refine K3 _ ?_
  refine aj ?_
  refine ay rfl (by constructor) zN zS ?_
  first
  | (refine vb ?_; rw [gk, ← hnl]; simp [sB2, h23]; done)
  | (refine vb ?_; simp [sB2, h23]; done)
 have h23 : inB s.fr 0 ((f7 t s.ch : Int) - 1) = false := by rw [hnl]; rwa [gk] at hs
 refine yK rfl ?_
 refine yK rfl ?_
 refine yK rfl ?_
 refine yK rfl ?_
 refine yK rfl ?_
 refine yK rfl ?_
 refine yK rfl ?_
 refine yK rfl ?_
 refine aa rfl (dh rfl rfl (by constructor)) ?_
 refine yA rfl rfl ?_
 refine yN ?_
 dsimp only [St.put]
 refine K3 _ ?_
 refine aj ?_
 refine ay rfl (by constructor) zN zS ?_
 first
 | (refine vb ?_; rw [gk, ← hnl]; simp [sB2, h23]; done)
 | (refine vb ?_; simp [sB2, h23]; done)
theorem uo5 (t : af) (s : StretchD) (ht : bw t = true) (h1 : sB1 t s = true) (h2 : sB2 t s = true) : ce Tryz.prog 164 [b7 t, val s] (.v (.bool (sB3 s))) := by
 refine cv Tryz.func164 rfl (fun m => .v) fun G nx => ?_
 simp only [Tryz.ntmps164, List.length_cons, List.length_nil, Nat.reduceAdd, Nat.reduceSub]
 refine bf fun hlt => ?_
 dsimp only at hlt
 have hnl := ubt ht s.ch
 have h2' := h2
 simp only [sB2, Bool.and_eq_true, inB_true] at h2'
 refine yS fun _ K1 => ?_
 refine yR ?_
 try dsimp only [St.put]
 refine yB rfl rfl rfl ?_
 try dsimp only [St.put]
 refine yB rfl rfl rfl ?_
 refine yA rfl rfl ?_
 refine yN ?_
 dsimp only [St.put]
 refine K1 _ ?_
 refine yS fun _ K2 => ?_
 refine yR ?_
 refine yF rfl rfl rfl rfl ?_
 refine yL rfl rfl rfl ?_
 refine yF rfl rfl rfl rfl ?_
 refine yL rfl rfl rfl ?_
 try dsimp only [St.put]
 refine ae rfl (cq rfl rfl rfl (by decide) (by decide) zR (by decide) ?_)
 try dsimp only [St.put]
 refine ae rfl (a7 rfl rfl rfl (n1 _ _ [s.au, s.fi]) ?_)
 refine yM rfl rfl ?_
 refine et (fun hs => ?_) (fun hs => ?_)
 ·have h6 : inB s.au 1 999 = true ∧ inB s.fi 1 999 = true := by rwa [yd, Bool.and_eq_true] at hs
  have h7 := h6.2
  simp only [inB_true] at h7
  refine yF rfl rfl rfl rfl ?_
  refine yL rfl rfl rfl ?_
  refine yF rfl rfl rfl rfl ?_
  refine yL rfl rfl rfl ?_
  refine aa rfl (ca rfl rfl rfl (by omega)) ?_
  refine yF rfl rfl rfl rfl ?_
  refine yL rfl rfl rfl ?_
  refine aa rfl (g9 rfl rfl rfl (by omega)) ?_
  refine aa rfl (g9 rfl rfl rfl (by omega)) ?_
  refine aa rfl (xr rfl rfl rfl) ?_
  refine aa rfl (co rfl rfl (by constructor)) ?_
  refine yA rfl rfl ?_
  refine yN ?_
  dsimp only [St.put]
  refine K2 _ ?_
  refine aj ?_
  refine ay rfl (by constructor) zN zS ?_
  first
  | (refine vb ?_
     rw [Bool.eq_iff_iff, decide_eq_true_eq]
     simp only [sB3, h6.1, Bool.true_and, inB_true]
     omega)
  | (refine vb ?_
     rw [eq_comm, ← Bool.not_eq_true]
     intro h
     simp only [sB3, Bool.and_eq_true, inB_true] at h
     simp only [← Bool.not_eq_true, Bool.and_eq_true, inB_true] at h6
     omega)
 have h6 : (inB s.au 1 999 && inB s.fi 1 999) = false := by rwa [yd] at hs
 refine yK rfl ?_
 refine yK rfl ?_
 refine yK rfl ?_
 refine yK rfl ?_
 refine yK rfl ?_
 refine yK rfl ?_
 refine yK rfl ?_
 refine yK rfl ?_
 refine yK rfl ?_
 refine yK rfl ?_
 refine aa rfl (dh rfl rfl (by constructor)) ?_
 refine yA rfl rfl ?_
 refine yN ?_
 dsimp only [St.put]
 refine K2 _ ?_
 refine aj ?_
 refine ay rfl (by constructor) zN zS ?_
 first
 | (refine vb ?_
    rw [Bool.eq_iff_iff, decide_eq_true_eq]
    simp only [sB3, h6.1, Bool.true_and, inB_true]
    omega)
 | (refine vb ?_
    rw [eq_comm, ← Bool.not_eq_true]
    intro h
    simp only [sB3, Bool.and_eq_true, inB_true] at h
    simp only [← Bool.not_eq_true, Bool.and_eq_true, inB_true] at h6
    omega)
theorem uij (t : af) (s : StretchD) (ht : bw t = true) : c8 cr Tryz.prog 65 [b7 t, val s] (.v (.bool (fu t s))) := by
 refine fw Tryz.func65 rfl (fun m => .v) fun G nx hF => ?_
 simp only [Tryz.ntmps65, List.length_cons, List.length_nil, Nat.reduceAdd, Nat.reduceSub]
 refine bf fun hlt => ?_
 dsimp only at hlt
 have hl6 := (kh ht).2.1
 have hnx := hlt 0 _ hF
 refine yS fun _ K1 => ?_
 refine yR ?_
 try dsimp only [St.put]
 refine yB rfl rfl rfl ?_
 try dsimp only [St.put]
 refine yB rfl rfl rfl ?_
 refine yA rfl rfl ?_
 refine yN ?_
 dsimp only [St.put]
 refine K1 _ ?_
 refine yS fun _ K2 => ?_
 refine yS fun _ K3 => ?_
 refine yR ?_
 try dsimp only [St.put]
 refine ba rfl (uh7 rfl rfl zG (by rfl)) ?_
 refine yM rfl rfl ?_
 refine yN ?_
 dsimp only [St.put]
 refine K3 _ ?_
 refine bg ?_
 refine di 9 ?_
 simp only [cx, bi, Nat.reduceAdd, List.getD_cons_zero, List.getD_cons_succ, List.getD_nil, dc, Nat.reduceBEq, cond_true, cond_false]
 refine dv (G) zX ?_
 dsimp only
 refine el (X := Nat) (fun k => k ≤ 3 ∧ ∀ j, j < k → og t s j = true) (fun k => 3 - k) (fun k => [(5, .any), (6, .any), (8, .v (.int .i64 (k : Int)))]) (fun k G' => G') 0 rfl ?_ ?_ (fun _ _ h => h) ?_ ?_ ?_
 ·exact ⟨by omega, fun j hj => by omega⟩
 ·exact zF
 ·rintro k hI
  exact zL
 ·exact fun _ _ _ _ h => .inl h
 rintro k hI
 dsimp only at hI ⊢
 refine yS fun _ K4 => ?_
 refine yR ?_
 refine aa rfl (ck rfl rfl rfl) ?_
 refine yN ?_
 dsimp only [St.put]
 refine K4 _ ?_
 refine yS fun _ K5 => ?_
 refine ak rfl (fun hc => ?_) (fun hc => ?_)
 ·replace hc := of_decide_eq_true hc
  obtain ⟨f, hd, hFun, hp⟩ : ∃ f : Nat, (List.take 1 (List.drop (k * 1) [C.fn (.func 162) [], .fn (.func 163) [], .fn (.func 164) []])) = [C.fn (.func f) []] ∧ Fun Tryz.prog f ∧ ce Tryz.prog f [b7 t, val s] (.v (.bool (og t s k))) := by
   obtain rfl | rfl | rfl : k = 0 ∨ k = 1 ∨ k = 2 := by omega
   ·exact ⟨_, rfl, inferInstance, uo7 t s hl6⟩
   ·exact ⟨_, rfl, inferInstance, uo6 t s ht (hI.2 0 (by omega))⟩
   exact ⟨_, rfl, inferInstance, uo5 t s ht (hI.2 0 (by omega)) (hI.2 1 (by omega))⟩
  refine aq ?_
  refine K5 _ ?_
  refine yS fun _ K6 => ?_
  refine bg ?_
  refine yS fun _ K7 => ?_
  refine yR ?_
  refine aa rfl (ukm (m := 3) (k := k) (ds := [C.fn (.func f) []]) rfl rfl rfl rfl (by omega) hd) ?_
  try dsimp only [St.put]
  refine ae rfl (bj rfl ?_)
  try dsimp only [St.put]
  refine ae rfl (ax rfl rfl rfl zG rfl rfl (by rfl) ?_)
  refine yN ?_
  dsimp only [St.put]
  refine K7 _ ?_
  refine cw (i := 6) rfl zG (by first | exact List.cons_ne_nil _ _ | (simp; done) | (simp [putAt]; done)) ?_
  dsimp only
  refine yS fun _ K8 => ?_
  refine yR ?_
  refine yF rfl rfl rfl rfl ?_
  refine yL rfl rfl rfl ?_
  try dsimp only [St.put]
  refine ba rfl (bk rfl rfl rfl) ?_
  refine yE rfl rfl rfl ?_
  try dsimp only [St.put]
  refine ae rfl (a7 rfl rfl rfl (hp) ?_)
  refine aa rfl (c9 rfl rfl) ?_
  refine yN ?_
  dsimp only [St.put]
  refine K8 _ ?_
  refine ak rfl (fun hc => ?_) (fun hc => ?_)
  ·try replace hc := of_decide_eq_true hc
   refine yS fun _ K9 => ?_
   refine yR ?_
   refine yA rfl rfl ?_
   refine yN ?_
   dsimp only [St.put]
   refine K9 _ ?_
   refine aj ?_
   refine ay rfl (by constructor) zN zS ?_
   exact vb (uo1 (j := k) (by omega) (by simpa using hc)).symm
  try replace hc := of_decide_eq_false hc
  refine aq ?_
  refine K6 _ ?_
  refine yR ?_
  refine aa rfl (ca rfl rfl rfl (by omega)) ?_
  refine yM rfl rfl ?_
  refine yN ?_
  dsimp only [St.put]
  exact ⟨k + 1, by omega, ⟨by omega, fun j hj => by
    rcases Nat.eq_or_lt_of_le (Nat.le_of_lt_succ hj) with h | h
    ·subst h; simpa using hc
    exact hI.2 j h⟩, ⟨⟨rfl, rfl⟩, zF, zB, zN, zX⟩⟩
 try replace hc := of_decide_eq_false hc
 refine dl ?_
 refine K2 _ ?_
 refine yS fun _ K10 => ?_
 refine yR ?_
 refine yA rfl rfl ?_
 refine yN ?_
 dsimp only [St.put]
 refine K10 _ ?_
 refine aj ?_
 refine ay rfl (by constructor) zN zS ?_
 exact vb (uo2 fun j hj => hI.2 j (by omega)).symm
theorem upn (t : af) (s : StretchD) (ht : bw t = true) : c8 cr Tryz.prog 64 [val s, .elem [lst t]] (.v (.bool (!fu t s))) := by
 refine fw Tryz.func64 rfl (fun m => .v) fun G nx hF => ?_
 simp only [Tryz.ntmps64, List.length_cons, List.length_nil, Nat.reduceAdd, Nat.reduceSub]
 refine bf fun hlt => ?_
 dsimp only at hlt
 have hnx := hlt 0 _ hF
 refine yS fun _ K1 => ?_
 refine yR ?_
 try dsimp only [St.put]
 refine yB rfl rfl rfl ?_
 refine yA rfl rfl ?_
 refine yN ?_
 dsimp only [St.put]
 refine K1 _ ?_
 refine yS fun _ K2 => ?_
 refine yR ?_
 try dsimp only [St.put]
 refine ba rfl (bk rfl rfl rfl) ?_
 refine yE rfl rfl rfl ?_
 try dsimp only [St.put]
 refine ae rfl (dq rfl rfl rfl (uij t s ht) zG ?_)
 refine aa rfl (c9 rfl rfl) ?_
 refine yA rfl rfl ?_
 refine yN ?_
 dsimp only [St.put]
 refine K2 _ ?_
 refine aj ?_
 refine ay rfl (by constructor) zN zS ?_
 rfl
theorem ujm (xs : List StretchD) (p : StretchD → Bool) (k : Nat) (caps : List C) [Fun Tryz.prog k] (hl : xs.length ≤ 20) (hp : ∀ x ∈ xs, c8 cr Tryz.prog k (val x :: caps) (.v (.bool (p x)))) : c8 cr Tryz.prog 63 [lst xs, .fn (.func k) caps] (lst (xs.filter p)) := by
 refine fw Tryz.func63 rfl (fun m => (bd _ _)) fun G nx hF => ?_
 simp only [Tryz.ntmps63, List.length_cons, List.length_nil, Nat.reduceAdd, Nat.reduceSub]
 refine bf fun hlt => ?_
 dsimp only at hlt
 have hnx := hlt 0 _ hF
 refine yS fun _ K1 => ?_
 refine yR ?_
 refine yA rfl rfl ?_
 refine yN ?_
 dsimp only [St.put]
 refine K1 _ ?_
 refine yS fun _ K2 => ?_
 refine yR ?_
 refine yA rfl rfl ?_
 refine yN ?_
 dsimp only [St.put]
 refine K2 _ ?_
 refine vt 5 28 5 rfl (by decide) ?_
 dsimp only [List.set_cons_zero, List.set_cons_succ]
 refine yS fun _ K3 => ?_
 refine yS fun _ K4 => ?_
 refine yR ?_
 refine yM rfl rfl ?_
 refine aa rfl (bx rfl rfl (List.length_map _)) ?_
 refine yM rfl rfl ?_
 refine yN ?_
 dsimp only [St.put]
 refine K4 _ ?_
 refine bg ?_
 refine di 11 ?_
 simp only [cx, bi, Nat.reduceAdd, List.getD_cons_zero, List.getD_cons_succ, List.getD_nil, dc, Nat.reduceBEq, cond_true, cond_false]
 refine dv (ah G nx (.tip 0 28 5)) zX ?_
 dsimp only
 refine el (X := Nat) (fun i => i ≤ xs.length) (fun i => xs.length - i) (fun i => [(5, .list (((xs.take i).filter p).map cells) (.tip nx)), (6, .any), (7, .any), (10, .v (.int .i64 (i : Int)))]) (fun i G' => (ah G nx (.tip (((xs.take i).filter p)).length 28 5))) 0 rfl ?_ ?_ ?_ ?_ ?_ ?_
 ·exact Nat.zero_le _
 ·exact zF
 ·exact zX
 ·rintro i hI
  exact zL
 ·rintro i hI
  exact zH
 rintro i hI
 dsimp only at hI ⊢
 refine yS fun _ K5 => ?_
 refine yR ?_
 refine aa rfl (ck rfl rfl rfl) ?_
 refine yN ?_
 dsimp only [St.put]
 refine K5 _ ?_
 refine yS fun _ K6 => ?_
 refine ak rfl (fun hc => ?_) (fun hc => ?_)
 ·replace hc := of_decide_eq_true hc
  obtain ⟨x, hx⟩ : ∃ x, xs[i]? = some x := dw (by omega)
  have hfl := List.length_filter_le p (xs.take i)
  rw [List.length_take] at hfl
  refine aq ?_
  refine K6 _ ?_
  refine yS fun _ K7 => ?_
  refine bg ?_
  refine yS fun _ K8 => ?_
  refine yR ?_
  refine aa rfl (b8 rfl rfl rfl rfl (cg (by assumption)) (Enc.len _)) ?_
  refine yE rfl rfl rfl ?_
  try dsimp only [St.put]
  refine ae rfl (bj rfl ?_)
  try dsimp only [St.put]
  refine ae rfl (ax rfl rfl rfl zG rfl rfl (by rfl) ?_)
  refine yN ?_
  dsimp only [St.put]
  refine K8 _ ?_
  refine cw (i := 7) rfl zG (by first | exact List.cons_ne_nil _ _ | (simp; done) | (simp [putAt]; done)) ?_
  dsimp only
  refine yS fun _ K9 => ?_
  refine yR ?_
  refine yM rfl rfl ?_
  refine yE rfl rfl rfl ?_
  try dsimp only [St.put]
  refine ae rfl (dq rfl rfl rfl (hp x (e8 hx)) zG ?_)
  refine yN ?_
  dsimp only [St.put]
  refine K9 _ ?_
  refine ak rfl (fun hc => ?_) (fun hc => ?_)
  ·skip
   refine yR ?_
   refine yM rfl rfl ?_
   refine yE rfl rfl rfl ?_
   try dsimp only [St.put]
   refine ae rfl (cq rfl rfl rfl (by decide) (by decide) zR (by decide) ?_)
   try dsimp only [St.put]
   refine ae rfl (rf ([x]) rfl rfl zG (by first | rfl | simp) rfl rfl zA ?_ zA)
   refine yA rfl rfl ?_
   refine yN ?_
   dsimp only [St.put]
   refine K7 _ ?_
   refine yR ?_
   refine aa rfl (ca rfl rfl rfl (by omega)) ?_
   refine yM rfl rfl ?_
   refine yN ?_
   dsimp only [St.put]
   first
    | (rw [show (xs.take i).filter p ++ [x] = (xs.take (i + 1)).filter p by rw [List.take_add_one, hx, List.filter_append]; simp [hc]]; exact ⟨i + 1, by omega, by omega, ⟨⟨rfl, rfl⟩, zF, zB, zN, zX⟩⟩)
    | (rw [show (xs.take i).filter p = (xs.take (i + 1)).filter p by rw [List.take_add_one, hx, List.filter_append]; simp [hc]]; exact ⟨i + 1, by omega, by omega, ⟨⟨rfl, rfl⟩, zF, zB, zN, zX⟩⟩)
  skip
  refine aq ?_
  refine K7 _ ?_
  refine yR ?_
  refine aa rfl (ca rfl rfl rfl (by omega)) ?_
  refine yM rfl rfl ?_
  refine yN ?_
  dsimp only [St.put]
  first
   | (rw [show (xs.take i).filter p ++ [x] = (xs.take (i + 1)).filter p by rw [List.take_add_one, hx, List.filter_append]; simp [hc]]; exact ⟨i + 1, by omega, by omega, ⟨⟨rfl, rfl⟩, zF, zB, zN, zX⟩⟩)
   | (rw [show (xs.take i).filter p = (xs.take (i + 1)).filter p by rw [List.take_add_one, hx, List.filter_append]; simp [hc]]; exact ⟨i + 1, by omega, by omega, ⟨⟨rfl, rfl⟩, zF, zB, zN, zX⟩⟩)
 try replace hc := of_decide_eq_false hc
 refine dl ?_
 refine K3 _ ?_
 refine yS fun _ K10 => ?_
 refine yR ?_
 refine yM rfl rfl ?_
 refine yA rfl rfl ?_
 refine yN ?_
 dsimp only [St.put]
 refine K10 _ ?_
 refine aj ?_
 refine jw rfl (ci (by constructor)) zN zS ?_
 rw [fj (show xs.length ≤ i by omega)]
 exact zW
end Go.Proofs.YtjjklfgpffgnfabGreatDoor
