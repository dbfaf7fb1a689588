/-
 'ProofExamplesCardSaid' is proved: whatever the input, the law ProofExamples returns true, and its input reads behind the call as it read before, where the tables that the program names hold what the program's text lays; the card ties that. No condition beyond.
-/
import Derived.Test.YtgffhbbcpgdjjaaDoorPartE
import Derived.Test.YtgffhbbcpgdjjaaDoorPartB
import Derived.Test.YtgffhbbcpgdjjaaDoorRows
import Derived.Test.YtgffhbbcpgdjjaaDoorCards
import Derived.Test.YtgffhbbcpgdjjaaDoorTie
import Derived.LaidMore
import Derived.Stop.Joined
import Derived.SevenTiedAt
import Derived.JoinedOf
import Derived.Handed
namespace Go.Proofs.YtgffhbbcpgdjjaaDoor
open Go.ChangeShapes Go.WideShapes Go.ChangeAt Go.RowKit Go.AB
open Go.AB.Enc (cells)
open Go.PB (aq ah PlaceD av ax aw bg am af cb ba)

set_option maxRecDepth 100000 in
theorem ujk (os : Os) (started : os.Started) (H : Type) (enc : TypeId × Value → H) :
  ReturnsInHanded {} Tryd.checked os 5 .any (fun w args => (Rows.proofExamplesSpec.pre enc Tryd.prog Tryd.f5 [] false w args ∧ laidMetH Tryd.prog r6 w) ∧ sizedMet enc Tryd.prog Tryd.f5 (OpenSpec.ofChange Rows.proofExamplesSpec) false w args)
   (Rows.proofExamplesSpec.post enc Tryd.prog Tryd.f5 false true false false) := by
 refine returnsInHanded_of_change_and (C := Tryd.checked) (X := fun w _ => laidMetH Tryd.prog r6 w) (fun _ _ _ hh h => h.of_heap hh) ownZ started (by kernel_rfl) Tryd.func5
  (ChangeSpec.witness_shaped (enc := enc) (C := Tryd.checked) (os := os) (X := fun w _ => laidMetH Tryd.prog r6 w) false (World.doorLaid Tryd.prog 600 os) #[] 8 rfl (World.shaped_of_RefB (by kernel_rfl) (by kernel_rfl)) (by kernel_rfl) (by kernel_rfl) (by kernel_rfl) (uj0 os _)) ?_
 intro W base args ds gs before hval0 hW _ _ hL _
 have hval : ∀ (j : Nat) t v, Tryd.f5.params[j]? = some t → args[j]? = some v → Value.okWide Tryd.prog W .any base t v := hval0
 have hW' := hW
 obtain ⟨p, q, hA0, hV, rfl, hfz, hnd⟩ := hW
 have hA : DataW.TrodAll enc Tryd.prog W 0 (fun _ => true) true Tryd.f5.params.toList args.toList ds p := hA0
 rw [Tryd.params5] at hA hval
 obtain ⟨hargs, rfl, rfl⟩ := trodAll_nil hA
 obtain rfl : args = #[] := by simpa using hargs
 obtain ⟨rfl, rfl⟩ := trodVars_none hV
 refine (uit ujl (ufi hL) (args := []) (Rs.nil)).mono fun e W' ⟨he, hB⟩ => ?_
 subst he
 have hlt := hW'.lt
 refine ⟨_, rfl, _, _, _, [], _, [], hW', trodAll_mk1 (shut_bool ukn _), (by first | trivial | exact ⟨rfl, rfl⟩ | exact rfl | simp [DataW.TrodAll]), rfl, hB.frame _, fun h => by cases h⟩

theorem ujj : Rows.ProofExamplesSaid :=
 OpenClaim.holds_of_wide 5 Tryd.f5 rfl rfl rfl rfl rfl rfl rfl ⟨rfl, rfl, rfl, rfl, rfl⟩ rfl rfl rfl rfl rfl (by kernel_rfl) Tryd.func5 (by kernel_rfl)
  (of_decide_eq_true (by kernel_rfl)) (by unfold Func.isWrapper; first | (rw [if_pos (by decide +kernel)]; kernel_rfl) | (rw [if_neg (by decide +kernel)]; exact ⟨rfl, rfl⟩))
  (fun os started H enc _ => ujk os started H enc)
theorem exampless : Rows.ProofExamplesCardSaid :=
 Claim7.holds_tied_plain_at .later [] [.funcs] true Rows.proofExamplesCard.stood.harness false
  ujj (fun _ h => by cases h) (by kernel_rfl) (fun _ h => by cases h) proofExamples_row_tie rfl ⟨rfl, rfl⟩ (by kernel_rfl) rfl
  (fun f fn hf hfn => by
   obtain rfl : f = 5 := Option.some.inj ((show Tryd.prog.funcNamed "postil/postillaw09.ProofExamples" = some 5 by kernel_rfl).symm.trans hf) |>.symm
   obtain rfl : fn = Tryd.f5 := (Option.some.inj (Tryd.func5.symm.trans hfn)).symm
   exact ⟨by kernel_rfl, fun j t ht => by
    rw [Tryd.params5] at ht
    simp at ht⟩)
  (by kernel_rfl)
#print axioms exampless
end Go.Proofs.YtgffhbbcpgdjjaaDoor
