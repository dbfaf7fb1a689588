/-
 Contracts of the reference's functions of charts: references, and where they lead; both, too, from one edition to another one.
-/
import Derived.Test.YtjjklfgpffgnfaaGreatDoorEaPlain
namespace Go.AB
open Go Go.RowKit
open Go.PB (bv ai PlaceD cy c6 cz)
theorem uds {t : ai} (ht : ct t = true) (p : L2) : ((fq t p).getD []).length ≤ 10 := by
 cases h : fq t p with
 | none => simp
 | some l => have := od ht h; simp only [Option.getD_some]; omega
end Go.AB
namespace Go.Proofs.YtjjklfgpffgnfaaGreatDoor
set_option maxRecDepth 10000
open Go.RowKit Go.AB
open Go.AB.Enc (cells)
open Go.PB (bv ai PlaceD cy c6 cz)
theorem ud3 : Tryz.prog.underlying 60 = some (.struct (Tryz.prog.fieldsOf 60)) := by kernel_rfl
theorem ufg : Tryz.prog.stoodInHeld 60 = false := by kernel_rfl
instance : EqT Tryz.prog 60 ec where
 guard op w x y xs ys := run_eqGuard_agg w op _ x y xs ys (by kernel_rfl)
 same w x y := by
  obtain ⟨a, b, c, d, e⟩ := x
  obtain ⟨a', b', c', d', e'⟩ := y
  simp only [FlatV.vals]
  rw [run_equalIn_agg _ _ _ _ _ ud3 ufg]
  by_cases h1 : a = a' <;> by_cases h2 : b = b' <;> by_cases h3 : c = c' <;> by_cases h4 : d = d' <;> by_cases h5 : e = e' <;> simp [go_sem, h1, h2, h3, h4, h5]
theorem ud1 : Tryz.prog.underlying 29 = some (.struct (Tryz.prog.fieldsOf 29)) := by kernel_rfl
theorem ufe : Tryz.prog.stoodInHeld 29 = false := by kernel_rfl
instance : EqT Tryz.prog 29 dm where
 guard op w x y xs ys := run_eqGuard_agg w op _ x y xs ys (by kernel_rfl)
 same w x y := by
  obtain ⟨a, b, c⟩ := x
  obtain ⟨a', b', c'⟩ := y
  simp only [FlatV.vals]
  rw [run_equalIn_agg _ _ _ _ _ ud1 ufe]
  by_cases h1 : a = a' <;> by_cases h2 : b = b' <;> by_cases h3 : c = c' <;> simp [go_sem, h1, h2, h3]
theorem umu (a b : List ec) : c8 Tryz.prog 41 [lst a, lst b] (.v (.bool (decide (a = b)))) := by
 refine dr Tryz.func41 rfl (fun m => .v) fun G nx => ?_
 simp only [Tryz.ntmps41, List.length_cons, List.length_nil, Nat.reduceAdd, Nat.reduceSub]
 refine bi fun hlt => ?_
 dsimp only at hlt
 refine lz 0 (fun hf => ?_)
 have hf' : a.length ≤ 9223372036854775807 := (fit_lst.1 hf).1
 clear hf
 refine yS fun _ K1 => ?_
 refine yR ?_
 refine yA rfl rfl ?_
 refine yN ?_
 dsimp only [St.put]
 refine K1 _ ?_
 refine yS fun _ K2 => ?_
 refine yS fun _ K3 => ?_
 refine yR ?_
 refine yM rfl rfl ?_
 refine aa rfl (ck rfl rfl (List.length_map _)) ?_
 refine yM rfl rfl ?_
 refine aa rfl (ck rfl rfl (List.length_map _)) ?_
 refine aa rfl (dt rfl rfl rfl) ?_
 refine yN ?_
 dsimp only [St.put]
 refine K3 _ ?_
 refine al rfl (fun hc => ?_) (fun hc => ?_)
 ·try replace hc := of_decide_eq_true hc
  refine yS fun _ K4 => ?_
  refine yR ?_
  refine yA rfl rfl ?_
  refine yN ?_
  dsimp only [St.put]
  refine K4 _ ?_
  refine am ?_
  refine bf rfl (by constructor) zN zS ?_
  exact vb (by
   have : a ≠ b := fun e => by subst e; simp at hc
   simp [this])
 have hab := li hc
 refine aw ?_
 refine K2 _ ?_
 refine yS fun _ K5 => ?_
 refine yS fun _ K6 => ?_
 refine yR ?_
 refine yA rfl rfl ?_
 refine yN ?_
 dsimp only [St.put]
 refine K6 _ ?_
 refine bn ?_
 refine eg 6 ?_
 simp only [dj, bq, Nat.reduceAdd, List.getD_cons_zero, List.getD_cons_succ, List.getD_nil, dw, Nat.reduceBEq, cond_true, cond_false]
 refine fg (G) zX ?_
 dsimp only
 refine fu (X := Nat) (fun k => k ≤ a.length ∧ a.take k = b.take k) (fun k => a.length - k) (fun k => [(5, .v (.int .i64 (k : Int)))]) (fun k G' => G') 0 rfl ?_ ?_ (fun _ _ h => h) ?_ ?_ ?_
 ·exact ⟨by simp, by simp⟩
 ·exact zF
 ·rintro k hI
  exact zL
 ·exact fun _ _ _ _ h => .inl h
 rintro k hI
 dsimp only at hI ⊢
 refine yS fun _ K7 => ?_
 refine yS fun _ K8 => ?_
 refine yR ?_
 refine yM rfl rfl ?_
 refine yM rfl rfl ?_
 refine aa rfl (ck rfl rfl (List.length_map _)) ?_
 refine aa rfl (cr rfl rfl rfl) ?_
 refine yN ?_
 dsimp only [St.put]
 refine K8 _ ?_
 refine al rfl (fun hc => ?_) (fun hc => ?_)
 ·replace hc := of_decide_eq_true hc
  obtain ⟨x, hx⟩ : ∃ x, a[k]? = some x := fj (by omega)
  obtain ⟨y, hy⟩ : ∃ y, b[k]? = some y := fj (by omega)
  refine aw ?_
  refine K7 _ ?_
  refine yS fun _ K9 => ?_
  refine bn ?_
  refine yS fun _ K10 => ?_
  refine gj [(0, none), (1, none), (2, none), (3, none), (4, none), (5, none), (6, none), (7, none), (8, none)] (fun i => [].contains i) (fun i => [].contains i) (fun i => [0, 1, 2, 4, 5, 6, 8].contains i) [] (by kernel_rfl) (by kernel_rfl) ?_
  refine xM rfl rfl rfl rfl rfl ?_
  refine xM rfl rfl rfl rfl rfl ?_
  try dsimp only [St.put]
  refine ah rfl rfl rfl rfl (b7 rfl rfl rfl rfl (cm (by assumption)) (Enc.len _)) ?_
  try dsimp only [St.put]
  refine aj rfl rfl rfl rfl (aq rfl rfl (Enc.len _)) ?_
  refine xM rfl rfl rfl rfl rfl ?_
  refine xM rfl rfl rfl rfl rfl ?_
  try dsimp only [St.put]
  refine ah rfl rfl rfl rfl (b7 rfl rfl rfl rfl (cm (by assumption)) (Enc.len _)) ?_
  try dsimp only [St.put]
  refine aj rfl rfl rfl rfl (aq rfl rfl (Enc.len _)) ?_
  refine ah rfl rfl rfl rfl (vm (x := x) (y := y) rfl rfl rfl) ?_
  refine bu ?_
  dsimp only [St.put]
  refine K10 _ ?_
  refine al rfl (fun hc => ?_) (fun hc => ?_)
  ·try replace hc := of_decide_eq_true hc
   refine yS fun _ K11 => ?_
   refine yR ?_
   refine yA rfl rfl ?_
   refine yN ?_
   dsimp only [St.put]
   refine K11 _ ?_
   refine am ?_
   refine bf rfl (by constructor) zN zS ?_
   exact vb (by
    have := vh hx hy (ny hc)
    simp [this])
  have hxy := li hc
  refine aw ?_
  refine K9 _ ?_
  refine yR ?_
  refine yM rfl rfl ?_
  refine aa rfl (bw rfl rfl rfl (by omega)) ?_
  refine yA rfl rfl ?_
  refine yN ?_
  dsimp only [St.put]
  exact ⟨k + 1, by omega, ⟨by omega, uk hI.2 hx (hxy ▸ hy)⟩, ⟨⟨rfl, rfl⟩, zF, zB, zN, zX⟩⟩
 try replace hc := of_decide_eq_false hc
 refine ey ?_
 refine K5 _ ?_
 refine yS fun _ K12 => ?_
 refine yR ?_
 refine yA rfl rfl ?_
 refine yN ?_
 dsimp only [St.put]
 refine K12 _ ?_
 refine am ?_
 refine bf rfl (by constructor) zN zS ?_
 exact vb (by
  have h1 := hI.2
  rw [im (by omega), im (by omega)] at h1
  simp [h1])
end Go.Proofs.YtjjklfgpffgnfaaGreatDoor
