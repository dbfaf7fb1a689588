/-
 Contracts: comparisons and copies of editions; valid stretches and editions, as the program checks them.
-/
import Derived.Test.YtjjklfgpffgnfaaGreatDoorCtPlain
namespace Go.AB
open Go Go.RowKit
open Go.PB (bv ai PlaceD)
/-- what a stretch is checked by, one by one -/
def n7 (t : ai) (s : StretchD) : Nat → Bool
 | 0 => sB1 t s
 | 1 => sB2 t s
 | _ => sB3 s
theorem uk3 {t : ai} {s : StretchD} (h : ∀ j, j < 3 → n7 t s j = true) : g9 t s = true := by
 have h0 := h 0 (by omega)
 have h1 := h 1 (by omega)
 have h2 := h 2 (by omega)
 simp only [n7] at h0 h1 h2
 simp [g9, h0, h1, h2]
theorem uk2 {t : ai} {s : StretchD} {j : Nat} (hj : j < 3) (h : n7 t s j = false) : g9 t s = false := by
 obtain rfl | rfl | rfl : j = 0 ∨ j = 1 ∨ j = 2 := by omega
 ·simp only [n7] at h; simp [g9, h]
 ·simp only [n7] at h; simp [g9, h]
 simp only [n7] at h; simp [g9, h]
theorem w6 {t : ai} {e : av} : i5 t e = (inB e.id 0 9999 && (decide (e.ss.length ≤ 12) && decide ((e.ss.filter fun s => !g9 t s).length = 0))) := by
 unfold i5
 congr 2
 rw [Bool.eq_iff_iff, List.all_eq_true, decide_eq_true_eq, List.length_eq_zero_iff, List.filter_eq_nil_iff]
 simp
end Go.AB
namespace Go.Proofs.YtjjklfgpffgnfaaGreatDoor
set_option maxRecDepth 10000
open Go.RowKit Go.AB
open Go.AB.Enc (cells)
open Go.PB (bv ai PlaceD cy c6 cz)
theorem ums (a b : List PlaceD) : c8 Tryz.prog 62 [lst a, lst b] (.v (.bool (decide (a = b)))) := by
 refine dr Tryz.func62 rfl (fun m => .v) fun G nx => ?_
 simp only [Tryz.ntmps62, List.length_cons, List.length_nil, Nat.reduceAdd, Nat.reduceSub]
 refine bi fun hlt => ?_
 dsimp only at hlt
 refine lz 0 (fun hf => ?_)
 have hf' : a.length ≤ 9223372036854775807 := (fit_lst.1 hf).1
 clear hf
 refine yS fun _ K1 => ?_
 refine yR ?_
 refine yA rfl rfl ?_
 refine yN ?_
 dsimp only [St.put]
 refine K1 _ ?_
 refine yS fun _ K2 => ?_
 refine yS fun _ K3 => ?_
 refine yR ?_
 refine yM rfl rfl ?_
 refine aa rfl (ck rfl rfl (List.length_map _)) ?_
 refine yM rfl rfl ?_
 refine aa rfl (ck rfl rfl (List.length_map _)) ?_
 refine aa rfl (dt rfl rfl rfl) ?_
 refine yN ?_
 dsimp only [St.put]
 refine K3 _ ?_
 refine al rfl (fun hc => ?_) (fun hc => ?_)
 ·try replace hc := of_decide_eq_true hc
  refine yS fun _ K4 => ?_
  refine yR ?_
  refine yA rfl rfl ?_
  refine yN ?_
  dsimp only [St.put]
  refine K4 _ ?_
  refine am ?_
  refine bf rfl (by constructor) zN zS ?_
  exact vb (by
   have : a ≠ b := fun e => by subst e; simp at hc
   simp [this])
 have hab := li hc
 refine aw ?_
 refine K2 _ ?_
 refine yS fun _ K5 => ?_
 refine yS fun _ K6 => ?_
 refine yR ?_
 refine yA rfl rfl ?_
 refine yN ?_
 dsimp only [St.put]
 refine K6 _ ?_
 refine bn ?_
 refine eg 6 ?_
 simp only [dj, bq, Nat.reduceAdd, List.getD_cons_zero, List.getD_cons_succ, List.getD_nil, dw, Nat.reduceBEq, cond_true, cond_false]
 refine fg (G) zX ?_
 dsimp only
 refine fu (X := Nat) (fun k => k ≤ a.length ∧ a.take k = b.take k) (fun k => a.length - k) (fun k => [(5, .v (.int .i64 (k : Int)))]) (fun k G' => G') 0 rfl ?_ ?_ (fun _ _ h => h) ?_ ?_ ?_
 ·exact ⟨by simp, by simp⟩
 ·exact zF
 ·rintro k hI
  exact zL
 ·exact fun _ _ _ _ h => .inl h
 rintro k hI
 dsimp only at hI ⊢
 refine yS fun _ K7 => ?_
 refine yS fun _ K8 => ?_
 refine yR ?_
 refine yM rfl rfl ?_
 refine yM rfl rfl ?_
 refine aa rfl (ck rfl rfl (List.length_map _)) ?_
 refine aa rfl (cr rfl rfl rfl) ?_
 refine yN ?_
 dsimp only [St.put]
 refine K8 _ ?_
 refine al rfl (fun hc => ?_) (fun hc => ?_)
 ·replace hc := of_decide_eq_true hc
  obtain ⟨x, hx⟩ : ∃ x, a[k]? = some x := fj (by omega)
  obtain ⟨y, hy⟩ : ∃ y, b[k]? = some y := fj (by omega)
  refine aw ?_
  refine K7 _ ?_
  refine yS fun _ K9 => ?_
  refine bn ?_
  refine yS fun _ K10 => ?_
  refine gj [(0, none), (1, none), (2, none), (3, none), (4, none), (5, none), (6, none), (7, none), (8, none)] (fun i => [].contains i) (fun i => [].contains i) (fun i => [0, 1, 2, 4, 5, 6, 8].contains i) [] (by kernel_rfl) (by kernel_rfl) ?_
  refine xM rfl rfl rfl rfl rfl ?_
  refine xM rfl rfl rfl rfl rfl ?_
  try dsimp only [St.put]
  refine ah rfl rfl rfl rfl (b7 rfl rfl rfl rfl (cm (by assumption)) (Enc.len _)) ?_
  try dsimp only [St.put]
  refine aj rfl rfl rfl rfl (aq rfl rfl (Enc.len _)) ?_
  refine xM rfl rfl rfl rfl rfl ?_
  refine xM rfl rfl rfl rfl rfl ?_
  try dsimp only [St.put]
  refine ah rfl rfl rfl rfl (b7 rfl rfl rfl rfl (cm (by assumption)) (Enc.len _)) ?_
  try dsimp only [St.put]
  refine aj rfl rfl rfl rfl (aq rfl rfl (Enc.len _)) ?_
  refine ah rfl rfl rfl rfl (vm (x := x) (y := y) rfl rfl rfl) ?_
  refine bu ?_
  dsimp only [St.put]
  refine K10 _ ?_
  refine al rfl (fun hc => ?_) (fun hc => ?_)
  ·try replace hc := of_decide_eq_true hc
   refine yS fun _ K11 => ?_
   refine yR ?_
   refine yA rfl rfl ?_
   refine yN ?_
   dsimp only [St.put]
   refine K11 _ ?_
   refine am ?_
   refine bf rfl (by constructor) zN zS ?_
   exact vb (by
    have := vh hx hy (ny hc)
    simp [this])
  have hxy := li hc
  refine aw ?_
  refine K9 _ ?_
  refine yR ?_
  refine yM rfl rfl ?_
  refine aa rfl (bw rfl rfl rfl (by omega)) ?_
  refine yA rfl rfl ?_
  refine yN ?_
  dsimp only [St.put]
  exact ⟨k + 1, by omega, ⟨by omega, uk hI.2 hx (hxy ▸ hy)⟩, ⟨⟨rfl, rfl⟩, zF, zB, zN, zX⟩⟩
 try replace hc := of_decide_eq_false hc
 refine ey ?_
 refine K5 _ ?_
 refine yS fun _ K12 => ?_
 refine yR ?_
 refine yA rfl rfl ?_
 refine yN ?_
 dsimp only [St.put]
 refine K12 _ ?_
 refine am ?_
 refine bf rfl (by constructor) zN zS ?_
 exact vb (by
  have h1 := hI.2
  rw [im (by omega), im (by omega)] at h1
  simp [h1])
theorem udf (a b : List StretchD) : c8 Tryz.prog 42 [lst a, lst b] (.v (.bool (decide (a = b)))) := by
 refine dr Tryz.func42 rfl (fun m => .v) fun G nx => ?_
 simp only [Tryz.ntmps42, List.length_cons, List.length_nil, Nat.reduceAdd, Nat.reduceSub]
 refine bi fun hlt => ?_
 dsimp only at hlt
 refine lz 0 (fun hf => ?_)
 have hf' : a.length ≤ 9223372036854775807 := (fit_lst.1 hf).1
 clear hf
 refine yS fun _ K1 => ?_
 refine yR ?_
 refine yA rfl rfl ?_
 refine yN ?_
 dsimp only [St.put]
 refine K1 _ ?_
 refine yS fun _ K2 => ?_
 refine yS fun _ K3 => ?_
 refine yR ?_
 refine yM rfl rfl ?_
 refine aa rfl (ck rfl rfl (List.length_map _)) ?_
 refine yM rfl rfl ?_
 refine aa rfl (ck rfl rfl (List.length_map _)) ?_
 refine aa rfl (dt rfl rfl rfl) ?_
 refine yN ?_
 dsimp only [St.put]
 refine K3 _ ?_
 refine al rfl (fun hc => ?_) (fun hc => ?_)
 ·try replace hc := of_decide_eq_true hc
  refine yS fun _ K4 => ?_
  refine yR ?_
  refine yA rfl rfl ?_
  refine yN ?_
  dsimp only [St.put]
  refine K4 _ ?_
  refine am ?_
  refine bf rfl (by constructor) zN zS ?_
  exact vb (by
   have : a ≠ b := fun e => by subst e; simp at hc
   simp [this])
 have hab := li hc
 refine aw ?_
 refine K2 _ ?_
 refine yS fun _ K5 => ?_
 refine yS fun _ K6 => ?_
 refine yR ?_
 refine yA rfl rfl ?_
 refine yN ?_
 dsimp only [St.put]
 refine K6 _ ?_
 refine bn ?_
 refine eg 6 ?_
 simp only [dj, bq, Nat.reduceAdd, List.getD_cons_zero, List.getD_cons_succ, List.getD_nil, dw, Nat.reduceBEq, cond_true, cond_false]
 refine fg (G) zX ?_
 dsimp only
 refine fu (X := Nat) (fun k => k ≤ a.length ∧ a.take k = b.take k) (fun k => a.length - k) (fun k => [(5, .v (.int .i64 (k : Int)))]) (fun k G' => G') 0 rfl ?_ ?_ (fun _ _ h => h) ?_ ?_ ?_
 ·exact ⟨by simp, by simp⟩
 ·exact zF
 ·rintro k hI
  exact zL
 ·exact fun _ _ _ _ h => .inl h
 rintro k hI
 dsimp only at hI ⊢
 refine yS fun _ K7 => ?_
 refine yS fun _ K8 => ?_
 refine yR ?_
 refine yM rfl rfl ?_
 refine yM rfl rfl ?_
 refine aa rfl (ck rfl rfl (List.length_map _)) ?_
 refine aa rfl (cr rfl rfl rfl) ?_
 refine yN ?_
 dsimp only [St.put]
 refine K8 _ ?_
 refine al rfl (fun hc => ?_) (fun hc => ?_)
 ·replace hc := of_decide_eq_true hc
  obtain ⟨x, hx⟩ : ∃ x, a[k]? = some x := fj (by omega)
  obtain ⟨y, hy⟩ : ∃ y, b[k]? = some y := fj (by omega)
  refine aw ?_
  refine K7 _ ?_
  refine yS fun _ K9 => ?_
  refine bn ?_
  refine yS fun _ K10 => ?_
  refine gj [(0, none), (1, none), (2, none), (3, none), (4, none), (5, none), (6, none), (7, none), (8, none)] (fun i => [].contains i) (fun i => [].contains i) (fun i => [0, 1, 2, 4, 5, 6, 8].contains i) [] (by kernel_rfl) (by kernel_rfl) ?_
  refine xM rfl rfl rfl rfl rfl ?_
  refine xM rfl rfl rfl rfl rfl ?_
  try dsimp only [St.put]
  refine ah rfl rfl rfl rfl (b7 rfl rfl rfl rfl (cm (by assumption)) (Enc.len _)) ?_
  try dsimp only [St.put]
  refine aj rfl rfl rfl rfl (aq rfl rfl (Enc.len _)) ?_
  refine xM rfl rfl rfl rfl rfl ?_
  refine xM rfl rfl rfl rfl rfl ?_
  try dsimp only [St.put]
  refine ah rfl rfl rfl rfl (b7 rfl rfl rfl rfl (cm (by assumption)) (Enc.len _)) ?_
  try dsimp only [St.put]
  refine aj rfl rfl rfl rfl (aq rfl rfl (Enc.len _)) ?_
  refine ah rfl rfl rfl rfl (vm (x := x) (y := y) rfl rfl rfl) ?_
  refine bu ?_
  dsimp only [St.put]
  refine K10 _ ?_
  refine al rfl (fun hc => ?_) (fun hc => ?_)
  ·try replace hc := of_decide_eq_true hc
   refine yS fun _ K11 => ?_
   refine yR ?_
   refine yA rfl rfl ?_
   refine yN ?_
   dsimp only [St.put]
   refine K11 _ ?_
   refine am ?_
   refine bf rfl (by constructor) zN zS ?_
   exact vb (by
    have := vh hx hy (ny hc)
    simp [this])
  have hxy := li hc
  refine aw ?_
  refine K9 _ ?_
  refine yR ?_
  refine yM rfl rfl ?_
  refine aa rfl (bw rfl rfl rfl (by omega)) ?_
  refine yA rfl rfl ?_
  refine yN ?_
  dsimp only [St.put]
  exact ⟨k + 1, by omega, ⟨by omega, uk hI.2 hx (hxy ▸ hy)⟩, ⟨⟨rfl, rfl⟩, zF, zB, zN, zX⟩⟩
 try replace hc := of_decide_eq_false hc
 refine ey ?_
 refine K5 _ ?_
 refine yS fun _ K12 => ?_
 refine yR ?_
 refine yA rfl rfl ?_
 refine yN ?_
 dsimp only [St.put]
 refine K12 _ ?_
 refine am ?_
 refine bf rfl (by constructor) zN zS ?_
 exact vb (by
  have h1 := hI.2
  rw [im (by omega), im (by omega)] at h1
  simp [h1])
theorem uby {a b : av} : decide (a = b) = (decide (a.id = b.id) && decide (a.ss = b.ss)) := by
 obtain ⟨a1, a2⟩ := a
 obtain ⟨b1, b2⟩ := b
 rw [Bool.eq_iff_iff]; simp
theorem umw (a b : av) : c8 Tryz.prog 30 [val a, val b] (.v (.bool (decide (a = b)))) := by
 refine dr Tryz.func30 rfl (fun m => .v) fun G nx => ?_
 simp only [Tryz.ntmps30, List.length_cons, List.length_nil, Nat.reduceAdd, Nat.reduceSub]
 refine bi fun hlt => ?_
 dsimp only at hlt
 refine yS fun _ K1 => ?_
 refine yR ?_
 try dsimp only [St.put]
 refine yB rfl rfl rfl ?_
 try dsimp only [St.put]
 refine yB rfl rfl rfl ?_
 refine yA rfl rfl ?_
 refine yN ?_
 dsimp only [St.put]
 refine K1 _ ?_
 refine yS fun _ K2 => ?_
 refine yR ?_
 refine yF rfl rfl rfl rfl ?_
 refine yL rfl rfl rfl ?_
 refine yF rfl rfl rfl rfl ?_
 refine yL rfl rfl rfl ?_
 refine aa rfl (g3 rfl rfl rfl) ?_
 refine yM rfl rfl ?_
 refine e7 (fun hs => ?_) (fun hs => ?_)
 ·try replace hs := of_decide_eq_true hs
  refine yF rfl rfl rfl rfl ?_
  refine yL rfl rfl rfl ?_
  refine yF rfl rfl rfl rfl ?_
  refine yL rfl rfl rfl ?_
  try dsimp only [St.put]
  refine ae rfl (bd rfl rfl rfl (udf _ _) ?_)
  refine aa rfl (bg rfl rfl (by constructor)) ?_
  refine yA rfl rfl ?_
  refine yN ?_
  dsimp only [St.put]
  refine K2 _ ?_
  refine am ?_
  refine bf rfl (by constructor) zN zS ?_
  exact vb (by rw [uby]; simp [hs])
 try replace hs := of_decide_eq_false hs
 refine yK rfl ?_
 refine yK rfl ?_
 refine yK rfl ?_
 refine yK rfl ?_
 refine yK rfl ?_
 refine aa rfl (cd rfl rfl (by constructor)) ?_
 refine yA rfl rfl ?_
 refine yN ?_
 dsimp only [St.put]
 refine K2 _ ?_
 refine am ?_
 refine bf rfl (by constructor) zN zS ?_
 exact vb (by rw [uby]; simp [hs])
theorem uiw (t : ai) (es : List av) : c8 Tryz.prog 32 [b8 t, lst es] (.v (.bool (es.any (fun e => decide (20 < e.ss.length)) || n5 t))) := by
 refine dr Tryz.func32 rfl (fun m => .v) fun G nx => ?_
 simp only [Tryz.ntmps32, List.length_cons, List.length_nil, Nat.reduceAdd, Nat.reduceSub]
 refine bi fun hlt => ?_
 dsimp only at hlt
 refine lz 1 (fun hf => ?_)
 have hf' : es.length ≤ 9223372036854775807 := (fit_lst.1 hf).1
 clear hf
 refine yS fun _ K1 => ?_
 refine yR ?_
 try dsimp only [St.put]
 refine yB rfl rfl rfl ?_
 refine yA rfl rfl ?_
 refine yN ?_
 dsimp only [St.put]
 refine K1 _ ?_
 refine yS fun _ K2 => ?_
 refine yS fun _ K3 => ?_
 refine yR ?_
 refine yM rfl rfl ?_
 refine aa rfl (ck rfl rfl (List.length_map _)) ?_
 refine yM rfl rfl ?_
 refine yN ?_
 dsimp only [St.put]
 refine K3 _ ?_
 refine bn ?_
 refine eg 10 ?_
 simp only [dj, bq, Nat.reduceAdd, List.getD_cons_zero, List.getD_cons_succ, List.getD_nil, dw, Nat.reduceBEq, cond_true, cond_false]
 refine fg (G) zX ?_
 dsimp only
 refine fu (X := Nat) (fun k => k ≤ es.length ∧ (es.take k).any (fun e => decide (20 < e.ss.length)) = false) (fun k => es.length - k) (fun k => [(5, .any), (6, .any), (9, .v (.int .i64 (k : Int)))]) (fun k G' => G') 0 rfl ?_ ?_ (fun _ _ h => h) ?_ ?_ ?_
 ·exact ⟨by simp, by simp⟩
 ·exact zF
 ·rintro k hI
  exact zL
 ·exact fun _ _ _ _ h => .inl h
 rintro k hI
 dsimp only at hI ⊢
 refine yS fun _ K4 => ?_
 refine yR ?_
 refine aa rfl (cr rfl rfl rfl) ?_
 refine yN ?_
 dsimp only [St.put]
 refine K4 _ ?_
 refine yS fun _ K5 => ?_
 refine al rfl (fun hc => ?_) (fun hc => ?_)
 ·replace hc := of_decide_eq_true hc
  obtain ⟨e, hx⟩ : ∃ x, es[k]? = some x := fj (by omega)
  refine aw ?_
  refine K5 _ ?_
  refine yS fun _ K6 => ?_
  refine bn ?_
  refine yS fun _ K7 => ?_
  refine yR ?_
  refine aa rfl (b7 rfl rfl rfl rfl (cm (by assumption)) (Enc.len _)) ?_
  refine yE rfl rfl rfl ?_
  try dsimp only [St.put]
  refine ae rfl (bp rfl ?_)
  try dsimp only [St.put]
  refine ae rfl (ay rfl rfl rfl zG rfl rfl (by rfl) ?_)
  refine yN ?_
  dsimp only [St.put]
  refine K7 _ ?_
  refine dg (i := 6) rfl zG (by first | exact List.cons_ne_nil _ _ | (simp; done) | (simp [putAt]; done)) ?_
  dsimp only
  refine yS fun _ K8 => ?_
  refine yR ?_
  refine yE rfl rfl rfl ?_
  try dsimp only [St.put]
  refine ae rfl (bd rfl rfl rfl (um2 _) ?_)
  refine yN ?_
  dsimp only [St.put]
  refine K8 _ ?_
  refine al rfl (fun hc => ?_) (fun hc => ?_)
  ·have hd : decide (20 < e.ss.length) = true := hc
   refine yS fun _ K9 => ?_
   refine yR ?_
   refine yA rfl rfl ?_
   refine yN ?_
   dsimp only [St.put]
   refine K9 _ ?_
   refine am ?_
   refine bf rfl (by constructor) zN zS ?_
   exact vb (by rw [ph hx hd]; rfl)
  have hd : decide (20 < e.ss.length) = false := hc
  refine aw ?_
  refine K6 _ ?_
  refine yR ?_
  refine aa rfl (bw rfl rfl rfl (by omega)) ?_
  refine yM rfl rfl ?_
  refine yN ?_
  dsimp only [St.put]
  exact ⟨k + 1, by omega, ⟨by omega, by rw [rt hx, hI.2, hd]; rfl⟩, ⟨⟨rfl, rfl⟩, zF, zB, zN, zX⟩⟩
 try replace hc := of_decide_eq_false hc
 refine ey ?_
 refine K2 _ ?_
 refine yS fun _ K10 => ?_
 refine yR ?_
 try dsimp only [St.put]
 refine af rfl (aq rfl rfl rfl) ?_
 try dsimp only [St.put]
 refine ae rfl (bd rfl rfl rfl (um1 _) ?_)
 refine yA rfl rfl ?_
 refine yN ?_
 dsimp only [St.put]
 refine K10 _ ?_
 refine am ?_
 refine bf rfl (by constructor) zN zS ?_
 exact vb (by
  have h1 := hI.2
  rw [im (by omega)] at h1
  rw [h1]; rfl)
/-! ### What a stretch is checked by -/
abbrev cv : GObj := .fact (.pointer (some ⟨0, 0, none⟩)) (.elem [.fn (.func 156) [], .fn (.func 157) [], .fn (.func 158) []])
theorem uk8 (t : ai) (s : StretchD) (hl : t.length ≤ 6) : c8 Tryz.prog 156 [b8 t, val s] (.v (.bool (sB1 t s))) := by
 refine dr Tryz.func156 rfl (fun m => .v) fun G nx => ?_
 simp only [Tryz.ntmps156, List.length_cons, List.length_nil, Nat.reduceAdd, Nat.reduceSub]
 refine bi fun hlt => ?_
 dsimp only at hlt
 refine yS fun _ K1 => ?_
 refine yR ?_
 try dsimp only [St.put]
 refine yB rfl rfl rfl ?_
 try dsimp only [St.put]
 refine yB rfl rfl rfl ?_
 refine yA rfl rfl ?_
 refine yN ?_
 dsimp only [St.put]
 refine K1 _ ?_
 refine yS fun _ K2 => ?_
 refine yR ?_
 refine yF rfl rfl rfl rfl ?_
 refine yL rfl rfl rfl ?_
 refine aa rfl (ck rfl rfl (List.length_map _)) ?_
 refine aa rfl (ip rfl rfl rfl (by omega)) ?_
 refine yF rfl rfl rfl rfl ?_
 refine yL rfl rfl rfl ?_
 try dsimp only [St.put]
 refine ae rfl (c9 rfl rfl rfl (by decide) (by decide) zR (by decide) ?_)
 try dsimp only [St.put]
 refine ae rfl (bd rfl rfl rfl (nq _ _ [s.ch]) ?_)
 refine yA rfl rfl ?_
 refine yN ?_
 dsimp only [St.put]
 refine K2 _ ?_
 refine am ?_
 refine bf rfl (by constructor) zN zS ?_
 exact vb (by rw [iz]; rfl)
theorem uk7 (t : ai) (s : StretchD) (ht : ct t = true) (h1 : sB1 t s = true) : c8 Tryz.prog 157 [b8 t, val s] (.v (.bool (sB2 t s))) := by
 refine dr Tryz.func157 rfl (fun m => .v) fun G nx => ?_
 simp only [Tryz.ntmps157, List.length_cons, List.length_nil, Nat.reduceAdd, Nat.reduceSub]
 refine bi fun hlt => ?_
 dsimp only at hlt
 obtain ⟨hl1, hl2, hl3⟩ := ml ht
 have hn1' := h1
 simp only [sB1, inB_true] at hn1'
 obtain ⟨c, hcx⟩ : ∃ c, t[s.ch.toNat]? = some c := fj (by omega)
 have hnl : ia t s.ch = c.lines.length := by simp [ia, hcx]
 have hll := (hl3 c (gr hcx)).2.1
 have hch : s.ch = ((s.ch.toNat : Nat) : Int) := by omega
 refine yS fun _ K1 => ?_
 refine yR ?_
 try dsimp only [St.put]
 refine yB rfl rfl rfl ?_
 try dsimp only [St.put]
 refine yB rfl rfl rfl ?_
 refine yA rfl rfl ?_
 refine yN ?_
 dsimp only [St.put]
 refine K1 _ ?_
 refine yS fun _ K2 => ?_
 refine yR ?_
 refine yF rfl rfl rfl rfl ?_
 refine yL rfl rfl rfl ?_
 refine yF rfl rfl rfl rfl ?_
 refine yL rfl rfl rfl ?_
 try dsimp only [St.put]
 refine aa rfl (b7 rfl rfl rfl (by omega) (cm (by assumption)) (Enc.len _)) ?_
 refine yF rfl rfl rfl rfl ?_
 refine yL rfl rfl rfl ?_
 refine aa rfl (ck rfl rfl (List.length_map _)) ?_
 refine yA rfl rfl ?_
 refine yN ?_
 dsimp only [St.put]
 refine K2 _ ?_
 refine yS fun _ K3 => ?_
 refine yR ?_
 refine yM rfl rfl ?_
 refine aa rfl (ip rfl rfl rfl (by omega)) ?_
 refine yF rfl rfl rfl rfl ?_
 refine yL rfl rfl rfl ?_
 try dsimp only [St.put]
 refine ae rfl (c9 rfl rfl rfl (by decide) (by decide) zR (by decide) ?_)
 try dsimp only [St.put]
 refine ae rfl (bd rfl rfl rfl (nq _ _ [s.fr]) ?_)
 refine yM rfl rfl ?_
 refine e7 (fun hs => ?_) (fun hs => ?_)
 ·have h23 : inB s.fr 0 ((ia t s.ch : Int) - 1) = true := by rw [hnl]; rwa [iz] at hs
  have hn2' := h23
  simp only [inB_true] at hn2'
  refine yF rfl rfl rfl rfl ?_
  refine yL rfl rfl rfl ?_
  refine aa rfl (bw rfl rfl rfl (by omega)) ?_
  refine yM rfl rfl ?_
  refine yF rfl rfl rfl rfl ?_
  refine yL rfl rfl rfl ?_
  try dsimp only [St.put]
  refine ae rfl (c9 rfl rfl rfl (by decide) (by decide) zR (by decide) ?_)
  try dsimp only [St.put]
  refine ae rfl (bd rfl rfl rfl (nq _ _ [s.tt]) ?_)
  refine aa rfl (bg rfl rfl (by constructor)) ?_
  refine yA rfl rfl ?_
  refine yN ?_
  dsimp only [St.put]
  refine K3 _ ?_
  refine am ?_
  refine bf rfl (by constructor) zN zS ?_
  first
  | (refine vb ?_; rw [iz, ← hnl]; simp [sB2, h23]; done)
  | (refine vb ?_; simp [sB2, h23]; done)
 have h23 : inB s.fr 0 ((ia t s.ch : Int) - 1) = false := by rw [hnl]; rwa [iz] at hs
 refine yK rfl ?_
 refine yK rfl ?_
 refine yK rfl ?_
 refine yK rfl ?_
 refine yK rfl ?_
 refine yK rfl ?_
 refine yK rfl ?_
 refine yK rfl ?_
 refine aa rfl (cd rfl rfl (by constructor)) ?_
 refine yA rfl rfl ?_
 refine yN ?_
 dsimp only [St.put]
 refine K3 _ ?_
 refine am ?_
 refine bf rfl (by constructor) zN zS ?_
 first
 | (refine vb ?_; rw [iz, ← hnl]; simp [sB2, h23]; done)
 | (refine vb ?_; simp [sB2, h23]; done)
theorem uk6 (t : ai) (s : StretchD) (ht : ct t = true) (h1 : sB1 t s = true) (h2 : sB2 t s = true) : c8 Tryz.prog 158 [b8 t, val s] (.v (.bool (sB3 s))) := by
 refine dr Tryz.func158 rfl (fun m => .v) fun G nx => ?_
 simp only [Tryz.ntmps158, List.length_cons, List.length_nil, Nat.reduceAdd, Nat.reduceSub]
 refine bi fun hlt => ?_
 dsimp only at hlt
 have hnl := zy ht s.ch
 have h2' := h2
 simp only [sB2, Bool.and_eq_true, inB_true] at h2'
 refine yS fun _ K1 => ?_
 refine yR ?_
 try dsimp only [St.put]
 refine yB rfl rfl rfl ?_
 try dsimp only [St.put]
 refine yB rfl rfl rfl ?_
 refine yA rfl rfl ?_
 refine yN ?_
 dsimp only [St.put]
 refine K1 _ ?_
 refine yS fun _ K2 => ?_
 refine yR ?_
 refine yF rfl rfl rfl rfl ?_
 refine yL rfl rfl rfl ?_
 refine yF rfl rfl rfl rfl ?_
 refine yL rfl rfl rfl ?_
 try dsimp only [St.put]
 refine ae rfl (c9 rfl rfl rfl (by decide) (by decide) zR (by decide) ?_)
 try dsimp only [St.put]
 refine ae rfl (bd rfl rfl rfl (nq _ _ [s.au, s.fi]) ?_)
 refine yM rfl rfl ?_
 refine e7 (fun hs => ?_) (fun hs => ?_)
 ·have h6 : inB s.au 1 999 = true ∧ inB s.fi 1 999 = true := by rwa [wc, Bool.and_eq_true] at hs
  have h7 := h6.2
  simp only [inB_true] at h7
  refine yF rfl rfl rfl rfl ?_
  refine yL rfl rfl rfl ?_
  refine yF rfl rfl rfl rfl ?_
  refine yL rfl rfl rfl ?_
  refine aa rfl (bw rfl rfl rfl (by omega)) ?_
  refine yF rfl rfl rfl rfl ?_
  refine yL rfl rfl rfl ?_
  refine aa rfl (ip rfl rfl rfl (by omega)) ?_
  refine aa rfl (ip rfl rfl rfl (by omega)) ?_
  refine aa rfl (sx rfl rfl rfl) ?_
  refine aa rfl (bg rfl rfl (by constructor)) ?_
  refine yA rfl rfl ?_
  refine yN ?_
  dsimp only [St.put]
  refine K2 _ ?_
  refine am ?_
  refine bf rfl (by constructor) zN zS ?_
  first
  | (refine vb ?_
     rw [Bool.eq_iff_iff, decide_eq_true_eq]
     simp only [sB3, h6.1, Bool.true_and, inB_true]
     omega)
  | (refine vb ?_
     rw [eq_comm, ← Bool.not_eq_true]
     intro h
     simp only [sB3, Bool.and_eq_true, inB_true] at h
     simp only [← Bool.not_eq_true, Bool.and_eq_true, inB_true] at h6
     omega)
 have h6 : (inB s.au 1 999 && inB s.fi 1 999) = false := by rwa [wc] at hs
 refine yK rfl ?_
 refine yK rfl ?_
 refine yK rfl ?_
 refine yK rfl ?_
 refine yK rfl ?_
 refine yK rfl ?_
 refine yK rfl ?_
 refine yK rfl ?_
 refine yK rfl ?_
 refine yK rfl ?_
 refine aa rfl (cd rfl rfl (by constructor)) ?_
 refine yA rfl rfl ?_
 refine yN ?_
 dsimp only [St.put]
 refine K2 _ ?_
 refine am ?_
 refine bf rfl (by constructor) zN zS ?_
 first
 | (refine vb ?_
    rw [Bool.eq_iff_iff, decide_eq_true_eq]
    simp only [sB3, h6.1, Bool.true_and, inB_true]
    omega)
 | (refine vb ?_
    rw [eq_comm, ← Bool.not_eq_true]
    intro h
    simp only [sB3, Bool.and_eq_true, inB_true] at h
    simp only [← Bool.not_eq_true, Bool.and_eq_true, inB_true] at h6
    omega)
theorem uf0 (t : ai) (s : StretchD) (ht : ct t = true) : da cv Tryz.prog 83 [b8 t, val s] (.v (.bool (g9 t s))) := by
 refine fy Tryz.func83 rfl (fun m => .v) fun G nx hF => ?_
 simp only [Tryz.ntmps83, List.length_cons, List.length_nil, Nat.reduceAdd, Nat.reduceSub]
 refine bi fun hlt => ?_
 dsimp only at hlt
 have hl6 := (ml ht).2.1
 have hnx := hlt 0 _ hF
 refine yS fun _ K1 => ?_
 refine yR ?_
 try dsimp only [St.put]
 refine yB rfl rfl rfl ?_
 try dsimp only [St.put]
 refine yB rfl rfl rfl ?_
 refine yA rfl rfl ?_
 refine yN ?_
 dsimp only [St.put]
 refine K1 _ ?_
 refine yS fun _ K2 => ?_
 refine yS fun _ K3 => ?_
 refine yR ?_
 try dsimp only [St.put]
 refine af rfl (eo rfl rfl zG (by rfl)) ?_
 refine yM rfl rfl ?_
 refine yN ?_
 dsimp only [St.put]
 refine K3 _ ?_
 refine bn ?_
 refine eg 9 ?_
 simp only [dj, bq, Nat.reduceAdd, List.getD_cons_zero, List.getD_cons_succ, List.getD_nil, dw, Nat.reduceBEq, cond_true, cond_false]
 refine fg (G) zX ?_
 dsimp only
 refine fu (X := Nat) (fun k => k ≤ 3 ∧ ∀ j, j < k → n7 t s j = true) (fun k => 3 - k) (fun k => [(5, .any), (6, .any), (8, .v (.int .i64 (k : Int)))]) (fun k G' => G') 0 rfl ?_ ?_ (fun _ _ h => h) ?_ ?_ ?_
 ·exact ⟨by omega, fun j hj => by omega⟩
 ·exact zF
 ·rintro k hI
  exact zL
 ·exact fun _ _ _ _ h => .inl h
 rintro k hI
 dsimp only at hI ⊢
 refine yS fun _ K4 => ?_
 refine yR ?_
 refine aa rfl (cr rfl rfl rfl) ?_
 refine yN ?_
 dsimp only [St.put]
 refine K4 _ ?_
 refine yS fun _ K5 => ?_
 refine al rfl (fun hc => ?_) (fun hc => ?_)
 ·replace hc := of_decide_eq_true hc
  obtain ⟨f, hd, hFun, hp⟩ : ∃ f : Nat, (List.take 1 (List.drop (k * 1) [C.fn (.func 156) [], .fn (.func 157) [], .fn (.func 158) []])) = [C.fn (.func f) []] ∧ Fun Tryz.prog f ∧ c8 Tryz.prog f [b8 t, val s] (.v (.bool (n7 t s k))) := by
   obtain rfl | rfl | rfl : k = 0 ∨ k = 1 ∨ k = 2 := by omega
   ·exact ⟨_, rfl, inferInstance, uk8 t s hl6⟩
   ·exact ⟨_, rfl, inferInstance, uk7 t s ht (hI.2 0 (by omega))⟩
   exact ⟨_, rfl, inferInstance, uk6 t s ht (hI.2 0 (by omega)) (hI.2 1 (by omega))⟩
  refine aw ?_
  refine K5 _ ?_
  refine yS fun _ K6 => ?_
  refine bn ?_
  refine yS fun _ K7 => ?_
  refine yR ?_
  refine aa rfl (ug0 (m := 3) (k := k) (ds := [C.fn (.func f) []]) rfl rfl rfl rfl (by omega) hd) ?_
  try dsimp only [St.put]
  refine ae rfl (bp rfl ?_)
  try dsimp only [St.put]
  refine ae rfl (ay rfl rfl rfl zG rfl rfl (by rfl) ?_)
  refine yN ?_
  dsimp only [St.put]
  refine K7 _ ?_
  refine dg (i := 6) rfl zG (by first | exact List.cons_ne_nil _ _ | (simp; done) | (simp [putAt]; done)) ?_
  dsimp only
  refine yS fun _ K8 => ?_
  refine yR ?_
  refine yF rfl rfl rfl rfl ?_
  refine yL rfl rfl rfl ?_
  try dsimp only [St.put]
  refine af rfl (aq rfl rfl rfl) ?_
  refine yE rfl rfl rfl ?_
  try dsimp only [St.put]
  refine ae rfl (bd rfl rfl rfl (hp) ?_)
  refine aa rfl (dn rfl rfl) ?_
  refine yN ?_
  dsimp only [St.put]
  refine K8 _ ?_
  refine al rfl (fun hc => ?_) (fun hc => ?_)
  ·try replace hc := of_decide_eq_true hc
   refine yS fun _ K9 => ?_
   refine yR ?_
   refine yA rfl rfl ?_
   refine yN ?_
   dsimp only [St.put]
   refine K9 _ ?_
   refine am ?_
   refine bf rfl (by constructor) zN zS ?_
   exact vb (uk2 (j := k) (by omega) (by simpa using hc)).symm
  try replace hc := of_decide_eq_false hc
  refine aw ?_
  refine K6 _ ?_
  refine yR ?_
  refine aa rfl (bw rfl rfl rfl (by omega)) ?_
  refine yM rfl rfl ?_
  refine yN ?_
  dsimp only [St.put]
  exact ⟨k + 1, by omega, ⟨by omega, fun j hj => by
    rcases Nat.eq_or_lt_of_le (Nat.le_of_lt_succ hj) with h | h
    ·subst h; simpa using hc
    exact hI.2 j h⟩, ⟨⟨rfl, rfl⟩, zF, zB, zN, zX⟩⟩
 try replace hc := of_decide_eq_false hc
 refine ey ?_
 refine K2 _ ?_
 refine yS fun _ K10 => ?_
 refine yR ?_
 refine yA rfl rfl ?_
 refine yN ?_
 dsimp only [St.put]
 refine K10 _ ?_
 refine am ?_
 refine bf rfl (by constructor) zN zS ?_
 exact vb (uk3 fun j hj => hI.2 j (by omega)).symm
theorem ulp (t : ai) (s : StretchD) (ht : ct t = true) : da cv Tryz.prog 82 [val s, .elem [lst t]] (.v (.bool (!g9 t s))) := by
 refine fy Tryz.func82 rfl (fun m => .v) fun G nx hF => ?_
 simp only [Tryz.ntmps82, List.length_cons, List.length_nil, Nat.reduceAdd, Nat.reduceSub]
 refine bi fun hlt => ?_
 dsimp only at hlt
 have hnx := hlt 0 _ hF
 refine yS fun _ K1 => ?_
 refine yR ?_
 try dsimp only [St.put]
 refine yB rfl rfl rfl ?_
 refine yA rfl rfl ?_
 refine yN ?_
 dsimp only [St.put]
 refine K1 _ ?_
 refine yS fun _ K2 => ?_
 refine yR ?_
 try dsimp only [St.put]
 refine af rfl (aq rfl rfl rfl) ?_
 refine yE rfl rfl rfl ?_
 try dsimp only [St.put]
 refine ae rfl (eb rfl rfl rfl (uf0 t s ht) zG ?_)
 refine aa rfl (dn rfl rfl) ?_
 refine yA rfl rfl ?_
 refine yN ?_
 dsimp only [St.put]
 refine K2 _ ?_
 refine am ?_
 refine bf rfl (by constructor) zN zS ?_
 rfl
theorem ugc (xs : List StretchD) (p : StretchD → Bool) (k : Nat) (caps : List C) [Fun Tryz.prog k] (hl : xs.length ≤ 20) (hp : ∀ x ∈ xs, da cv Tryz.prog k (val x :: caps) (.v (.bool (p x)))) : da cv Tryz.prog 81 [lst xs, .fn (.func k) caps] (lst (xs.filter p)) := by
 refine fy Tryz.func81 rfl (fun m => (bh _ _)) fun G nx hF => ?_
 simp only [Tryz.ntmps81, List.length_cons, List.length_nil, Nat.reduceAdd, Nat.reduceSub]
 refine bi fun hlt => ?_
 dsimp only at hlt
 have hnx := hlt 0 _ hF
 refine yS fun _ K1 => ?_
 refine yR ?_
 refine yA rfl rfl ?_
 refine yN ?_
 dsimp only [St.put]
 refine K1 _ ?_
 refine yS fun _ K2 => ?_
 refine yR ?_
 refine yA rfl rfl ?_
 refine yN ?_
 dsimp only [St.put]
 refine K2 _ ?_
 refine t8 5 48 5 rfl (by decide) ?_
 dsimp only [List.set_cons_zero, List.set_cons_succ]
 refine yS fun _ K3 => ?_
 refine yS fun _ K4 => ?_
 refine yR ?_
 refine yM rfl rfl ?_
 refine aa rfl (ck rfl rfl (List.length_map _)) ?_
 refine yM rfl rfl ?_
 refine yN ?_
 dsimp only [St.put]
 refine K4 _ ?_
 refine bn ?_
 refine eg 11 ?_
 simp only [dj, bq, Nat.reduceAdd, List.getD_cons_zero, List.getD_cons_succ, List.getD_nil, dw, Nat.reduceBEq, cond_true, cond_false]
 refine fg (ak G nx (.tip 0 48 5)) zX ?_
 dsimp only
 refine fu (X := Nat) (fun i => i ≤ xs.length) (fun i => xs.length - i) (fun i => [(5, .list (((xs.take i).filter p).map cells) (.tip nx)), (6, .any), (7, .any), (10, .v (.int .i64 (i : Int)))]) (fun i G' => (ak G nx (.tip (((xs.take i).filter p)).length 48 5))) 0 rfl ?_ ?_ ?_ ?_ ?_ ?_
 ·exact Nat.zero_le _
 ·exact zF
 ·exact zX
 ·rintro i hI
  exact zL
 ·rintro i hI
  exact zH
 rintro i hI
 dsimp only at hI ⊢
 refine yS fun _ K5 => ?_
 refine yR ?_
 refine aa rfl (cr rfl rfl rfl) ?_
 refine yN ?_
 dsimp only [St.put]
 refine K5 _ ?_
 refine yS fun _ K6 => ?_
 refine al rfl (fun hc => ?_) (fun hc => ?_)
 ·replace hc := of_decide_eq_true hc
  obtain ⟨x, hx⟩ : ∃ x, xs[i]? = some x := fj (by omega)
  have hfl := List.length_filter_le p (xs.take i)
  rw [List.length_take] at hfl
  refine aw ?_
  refine K6 _ ?_
  refine yS fun _ K7 => ?_
  refine bn ?_
  refine yS fun _ K8 => ?_
  refine yR ?_
  refine aa rfl (b7 rfl rfl rfl rfl (cm (by assumption)) (Enc.len _)) ?_
  refine yE rfl rfl rfl ?_
  try dsimp only [St.put]
  refine ae rfl (bp rfl ?_)
  try dsimp only [St.put]
  refine ae rfl (ay rfl rfl rfl zG rfl rfl (by rfl) ?_)
  refine yN ?_
  dsimp only [St.put]
  refine K8 _ ?_
  refine dg (i := 7) rfl zG (by first | exact List.cons_ne_nil _ _ | (simp; done) | (simp [putAt]; done)) ?_
  dsimp only
  refine yS fun _ K9 => ?_
  refine yR ?_
  refine yM rfl rfl ?_
  refine yE rfl rfl rfl ?_
  try dsimp only [St.put]
  refine ae rfl (eb rfl rfl rfl (hp x (gr hx)) zG ?_)
  refine yN ?_
  dsimp only [St.put]
  refine K9 _ ?_
  refine al rfl (fun hc => ?_) (fun hc => ?_)
  ·skip
   refine yR ?_
   refine yM rfl rfl ?_
   refine yE rfl rfl rfl ?_
   try dsimp only [St.put]
   refine ae rfl (c9 rfl rfl rfl (by decide) (by decide) zR (by decide) ?_)
   try dsimp only [St.put]
   refine ae rfl (ub8 ([x]) rfl rfl zG (by first | rfl | simp) rfl rfl zA ?_ zA)
   refine yA rfl rfl ?_
   refine yN ?_
   dsimp only [St.put]
   refine K7 _ ?_
   refine yR ?_
   refine aa rfl (bw rfl rfl rfl (by omega)) ?_
   refine yM rfl rfl ?_
   refine yN ?_
   dsimp only [St.put]
   first
    | (rw [show (xs.take i).filter p ++ [x] = (xs.take (i + 1)).filter p by rw [List.take_add_one, hx, List.filter_append]; simp [hc]]; exact ⟨i + 1, by omega, by omega, ⟨⟨rfl, rfl⟩, zF, zB, zN, zX⟩⟩)
    | (rw [show (xs.take i).filter p = (xs.take (i + 1)).filter p by rw [List.take_add_one, hx, List.filter_append]; simp [hc]]; exact ⟨i + 1, by omega, by omega, ⟨⟨rfl, rfl⟩, zF, zB, zN, zX⟩⟩)
  skip
  refine aw ?_
  refine K7 _ ?_
  refine yR ?_
  refine aa rfl (bw rfl rfl rfl (by omega)) ?_
  refine yM rfl rfl ?_
  refine yN ?_
  dsimp only [St.put]
  first
   | (rw [show (xs.take i).filter p ++ [x] = (xs.take (i + 1)).filter p by rw [List.take_add_one, hx, List.filter_append]; simp [hc]]; exact ⟨i + 1, by omega, by omega, ⟨⟨rfl, rfl⟩, zF, zB, zN, zX⟩⟩)
   | (rw [show (xs.take i).filter p = (xs.take (i + 1)).filter p by rw [List.take_add_one, hx, List.filter_append]; simp [hc]]; exact ⟨i + 1, by omega, by omega, ⟨⟨rfl, rfl⟩, zF, zB, zN, zX⟩⟩)
 try replace hc := of_decide_eq_false hc
 refine ey ?_
 refine K3 _ ?_
 refine yS fun _ K10 => ?_
 refine yR ?_
 refine yM rfl rfl ?_
 refine yA rfl rfl ?_
 refine yN ?_
 dsimp only [St.put]
 refine K10 _ ?_
 refine am ?_
 refine lp rfl (cj (by constructor)) zN zS ?_
 rw [im (show xs.length ≤ i by omega)]
 exact zW
end Go.Proofs.YtjjklfgpffgnfaaGreatDoor
