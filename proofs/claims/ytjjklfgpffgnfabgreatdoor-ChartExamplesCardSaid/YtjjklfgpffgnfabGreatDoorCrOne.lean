/-
 Contracts of the reference's functions of charts: valid editions, what clashes.
-/
import Derived.Test.YtjjklfgpffgnfabGreatDoorCfFuncs
import Derived.Test.YtjjklfgpffgnfabGreatDoorGrpA
namespace Go.AB
open Go Go.RowKit
open Go.PB (Chap TextD PlaceD)
instance : FlatV StretchD := ⟨fun x => [.int .i64 x.ch, .int .i64 x.fr, .int .i64 x.tt, .int .i64 x.au, .int .i64 x.fi], fun _ => rfl⟩
end Go.AB
namespace Go.Proofs.YtjjklfgpffgnfabGreatDoor
set_option maxRecDepth 10000
open Go.RowKit Go.AB
open Go.AB.Enc (cells)
open Go.PB (Chap TextD PlaceD ReadingD CopyD WayD)
theorem uf_stretch : Tryz.prog.underlying 28 = some (.struct (Tryz.prog.fieldsOf 28)) := by kernel_rfl
theorem sh_stretch : Tryz.prog.stoodInHeld 28 = false := by kernel_rfl
instance : EqT Tryz.prog 28 StretchD where
 guard op w x y xs ys := run_eqGuard_agg w op _ x y xs ys (by kernel_rfl)
 same w x y := by
  obtain ⟨a, b, c, d, e⟩ := x
  obtain ⟨a', b', c', d', e'⟩ := y
  simp only [FlatV.vals]
  rw [run_equalIn_agg _ _ _ _ _ uf_stretch sh_stretch]
  by_cases h1 : a = a' <;> by_cases h2 : b = b' <;> by_cases h3 : c = c' <;> by_cases h4 : d = d' <;> by_cases h5 : e = e' <;> simp [go_sem, h1, h2, h3, h4, h5]

theorem meet_pure (a m b n : Int) (h1 : I64 (b + n)) (h2 : I64 (a + m)) : Pure Tryz.prog 140 [.v (.int .i64 a), .v (.int .i64 m), .v (.int .i64 b), .v (.int .i64 n)] (.v (.bool (meetB a m b n))) := by
 refine pure_of_body Tryz.func140 rfl (fun m => .v) fun G nx => ?_
 simp only [Tryz.ntmps140, List.length_cons, List.length_nil, Nat.reduceAdd, Nat.reduceSub]
 refine aw_lt fun hlt => ?_
 dsimp only at hlt
 unfold I64 at h1 h2
 refine yS fun _ K1 => ?_
 refine yR ?_
 refine yA rfl rfl ?_
 refine yN ?_
 dsimp only [St.put]
 refine K1 _ ?_
 refine yS fun _ K2 => ?_
 refine yR ?_
 refine yM rfl rfl ?_
 refine yM rfl rfl ?_
 refine yM rfl rfl ?_
 refine aops_n rfl (n_add rfl rfl rfl (by omega)) ?_
 refine aops_n rfl (n_lss rfl rfl rfl) ?_
 refine yM rfl rfl ?_
 refine aops_split (fun hs => ?_) (fun hs => ?_)
 ·try replace hs := of_decide_eq_true hs
  refine yM rfl rfl ?_
  refine yM rfl rfl ?_
  refine yM rfl rfl ?_
  refine aops_n rfl (n_add rfl rfl rfl (by omega)) ?_
  refine aops_n rfl (n_lss rfl rfl rfl) ?_
  refine aops_n rfl (n_pt rfl rfl (by constructor)) ?_
  refine yA rfl rfl ?_
  refine yN ?_
  dsimp only [St.put]
  refine K2 _ ?_
  refine aw_ret ?_
  refine ends_1 rfl (by constructor) zN zS ?_
  exact vb (by simp [meetB]; try omega)
 try replace hs := of_decide_eq_false hs
 refine yK rfl ?_
 refine yK rfl ?_
 refine yK rfl ?_
 refine yK rfl ?_
 refine yK rfl ?_
 refine aops_n rfl (n_pf rfl rfl (by constructor)) ?_
 refine yA rfl rfl ?_
 refine yN ?_
 dsimp only [St.put]
 refine K2 _ ?_
 refine aw_ret ?_
 refine ends_1 rfl (by constructor) zN zS ?_
 exact vb (by simp [meetB]; try omega)
end Go.Proofs.YtjjklfgpffgnfabGreatDoor
