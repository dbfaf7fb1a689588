/-
 Contracts of the reference's functions of charts: valid editions, what clashes.
-/
import Derived.Test.YtejhjijbgceklaaCfFuncs
import Derived.Test.YtejhjijbgceklaaGrpA
namespace Go.AB
open Go Go.RowKit
open Go.PB (Chap TextD PlaceD)
end Go.AB
namespace Go.Proofs.Ytejhjijbgceklaa
set_option maxRecDepth 10000
open Go.RowKit Go.AB
open Go.AB.Enc (cells)
open Go.PB (Chap TextD PlaceD ReadingD CopyD WayD)
theorem Check1_pure (t : TextD) : Pure Try.prog 18 [textC t] (.v (.int .i64 (textEr t))) := by
 refine pure_of_body Try.func18 rfl (fun m => .v) fun G nx => ?_
 simp only [Try.ntmps18, List.length_cons, List.length_nil, Nat.reduceAdd, Nat.reduceSub]
 refine aw_lt fun hlt => ?_
 dsimp only at hlt
 refine yS fun _ K1 => ?_
 refine yR ?_
 try dsimp only [St.put]
 refine yB rfl rfl rfl ?_
 refine yA rfl rfl ?_
 refine yN ?_
 dsimp only [St.put]
 refine K1 _ ?_
 refine yS fun _ K2 => ?_
 refine yS fun _ K3 => ?_
 refine yR ?_
 try dsimp only [St.put]
 refine aops_s rfl (s_load_agg' rfl rfl rfl) ?_
 try dsimp only [St.put]
 refine aops_e rfl (e_call_pure rfl rfl rfl (Text_pure _) ?_)
 refine aops_n rfl (n_not rfl rfl) ?_
 refine yN ?_
 dsimp only [St.put]
 refine K3 _ ?_
 refine aw_cond rfl (fun hc => ?_) (fun hc => ?_)
 ·try replace hc := of_decide_eq_true hc
  refine yS fun _ K4 => ?_
  refine yR ?_
  refine yA rfl rfl ?_
  refine yN ?_
  dsimp only [St.put]
  refine K4 _ ?_
  refine aw_ret ?_
  refine ends_1 rfl (by constructor) zN zS ?_
  exact vi (by simp at hc; simp [textEr, hc])
 try replace hc := of_decide_eq_false hc
 refine aw_skip ?_
 refine K2 _ ?_
 refine yS fun _ K5 => ?_
 refine yR ?_
 refine yA rfl rfl ?_
 refine yN ?_
 dsimp only [St.put]
 refine K5 _ ?_
 refine aw_ret ?_
 refine ends_1 rfl (by constructor) zN zS ?_
 exact vi (by simp at hc; simp [textEr, hc])
end Go.Proofs.Ytejhjijbgceklaa
